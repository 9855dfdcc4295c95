/- The walk through the statement RunsFail. -/
import Derived.Test.YtcecpggkeaohnaaDoorSHB
import Derived.Test.YtcecpggkeaohnaaDoorLMade
namespace Go.Proofs.YtcecpggkeaohnaaDoor
set_option maxRecDepth 100000
open Go.RowKit
set_option linter.unusedSimpArgs false
set_option linter.unusedVariables false
theorem lit_check : ET.check (.mk 1 1 []) = 0 := by decide +kernel
theorem lit_bad (g : GT) (t : List Int) : badR g (.mk 1 1 []) t = false := by
  unfold badR
  generalize (playR g t).1 = v
  have h1 : ET.told (.mk 1 1 []) v = some 1 := by simp [ET.told]
  unfold ET.failsR ET.evalR
  rw [lit_check, h1]
  rcases ET.vchk_cases v 0 with h | h | h <;> simp [h]
theorem lit_never (g : GT) (m : Nat) (n : Int) : (runR g (.mk 1 1 []) n m).failed = false ∧ (runR g (.mk 1 1 []) n m).runs = m := by
  have := runF_never g (.mk 1 1 []) (lit_bad g) m (firstS n) 0
  exact ⟨this.1, by have := this.2; unfold runR; omega⟩
set_option maxRecDepth 100000 in
set_option maxHeartbeats 8000000 in
theorem runsFail_go {v0 v1 v2 v3 : Value} (w : World) (hT : TakesAt w) (g : GT) (o0 : GenAt w v0 g) (x : ET) (o1 : ExprAt w v1 x) (n : Int) (o2 : IntAt v2 n) (many : Int) (o3 : IntAt v3 many) :
    Calls Tryd.prog 12 #[v0, v1, v2, v3] w fun e w' => e = .returned (.bool true) ∧ Below w.heap.size w w' := by
  have HT := Lib.hid hT
  have HG := Lib.hid o0
  have HX := Lib.hid o1
  obtain ⟨k0, a0, b0, n0, ad0, c0, rfl⟩ := o0.shape
  obtain ⟨k1, n1, s1, ad1, c1, rfl⟩ := o1.shape
  obtain ⟨rfl, _⟩ := o2
  obtain ⟨rfl, _⟩ := o3
  clear hT o0 o1
  go_enter Tryd.func12, Tryd.ntmps12
  go_wp2_with fail
  generalize hW0 : ((w.alloc (.cells #[.int .i64 k0, .int .i64 a0, .int .i64 b0, .slice ad0 n0 c0] 41)).alloc (.cells #[.int .i64 k1, .int .i64 n1, .slice ad1 s1 c1] 24)) = W0
  have hB0 : Below w.heap.size w W0 := by rw [← hW0]; repeat (first | with_reducible assumption | with_reducible exact Below.refl _ _ | with_reducible apply Below.drew | (with_reducible refine Below.alloc ?_ (by first | omega | (simp only [World.size_alloc, size_setCell, size_drew, size_drewN]; omega) | (dsimp only; omega) | (simp only [World.size_alloc, size_setCell, size_drew, size_drewN]; dsimp only; omega)) _) | (with_reducible refine Below.setCell ?_ (by first | omega | (simp only [World.size_alloc, size_setCell, size_drew, size_drewN]; omega) | (dsimp only; omega) | (simp only [World.size_alloc, size_setCell, size_drew, size_drewN]; dsimp only; omega)) _) | (with_reducible apply below_drewN))
  have X0 : Blk W0 (w.heap.size) #[.int .i64 k0, .int .i64 a0, .int .i64 b0, .slice ad0 n0 c0] 41 := by rw [← hW0]; exact ((Blk.new w #[.int .i64 k0, .int .i64 a0, .int .i64 b0, .slice ad0 n0 c0] 41)).alloc _
  have X1 : Blk W0 (w.heap.size + 1) #[.int .i64 k1, .int .i64 n1, .slice ad1 s1 c1] 24 := by rw [← hW0]; exact (show Blk ((w.alloc (.cells #[.int .i64 k0, .int .i64 a0, .int .i64 b0, .slice ad0 n0 c0] 41)).alloc (.cells #[.int .i64 k1, .int .i64 n1, .slice ad1 s1 c1] 24)) (w.heap.size + 1) _ _ by simpa using Blk.new (w.alloc (.cells #[.int .i64 k0, .int .i64 a0, .int .i64 b0, .slice ad0 n0 c0] 41)) #[.int .i64 k1, .int .i64 n1, .slice ad1 s1 c1] 24)
  clear hW0
  refine (made_fact _).mono ?_
  rintro e W1 ⟨rfl, hb⟩
  have hB1 : Below w.heap.size w W1 := hB0.trans (hb.mono hB0.size)
  have X0 := X0.ext hb
  have X1 := X1.ext hb
  clear hb hB0
  go_wp2_with fail
  refine (asked_fact _ (HT.out.ext hB1)).mono ?_
  rintro e W2 ⟨rfl, hb⟩
  have hB2 : Below w.heap.size w W2 := hB1.trans (hb.mono hB1.size)
  have X0 := X0.ext hb
  have X1 := X1.ext hb
  clear hb hB1
  have g0 := X0.cell 0
  have g1 := X0.cell 1
  have g2 := X0.cell 2
  have g3 := X0.cell 3
  simp only [List.getElem?_toArray, List.getElem?_cons_succ, List.getElem?_cons_zero] at g0 g1 g2 g3
  have f0 := X1.cell 0
  have f1 := X1.cell 1
  have f2 := X1.cell 2
  simp only [List.getElem?_toArray, List.getElem?_cons_succ, List.getElem?_cons_zero] at f0 f1 f2
  go_wp2_with fail
  by_cases he1 : runErr g x many = 0
  case neg =>
    refine (run_bad g x n many he1 _ _ _ (HT.out.ext hB2) (HG.out.ext hB2) (HX.out.ext hB2)).mono ?_
    rintro _ W3 ⟨rfl, hb⟩
    have hB3 := hB2.trans (hb.mono hB2.size)
    have X0 := X0.ext hb
    have X0 := X0.alloc (.cells #[.int .i64 0, .bool false, .slice none 0 0, .int .i64 0] 53)
    have XR : Blk (W3.alloc (.cells #[.int .i64 0, .bool false, .slice none 0 0, .int .i64 0] 53)) W3.heap.size #[.int .i64 0, .bool false, .slice none 0 0, .int .i64 0] 53 := Blk.new _ _ _
    have hB4 : Below w.heap.size w (W3.alloc (.cells #[.int .i64 0, .bool false, .slice none 0 0, .int .i64 0] 53)) := hB3.alloc (hB3.size) _
    clear g0 g1 g2 g3 f0 f1 f2 hb
    have g0 := X0.cell 0
    have g1 := X0.cell 1
    have g2 := X0.cell 2
    have g3 := X0.cell 3
    simp only [List.getElem?_toArray, List.getElem?_cons_succ, List.getElem?_cons_zero] at g0 g1 g2 g3
    rw [errV_ne he1]
    clear he1
    go_wp2_with fail
    by_cases he2 : runErr g (.mk 1 1 []) many = 0
    · obtain ⟨hcc, hxx, hm0, hm1⟩ := runErr_zero he2
      obtain ⟨m, rfl⟩ := Int.eq_ofNat_of_zero_le hm0
      refine (run_ok g (.mk 1 1 []) n m (by omega) hcc hxx _ _ _ (HT.out.ext hB4) (HG.out.ext hB4) (ExprAt.leaf 1 1 ⟨by omega, by omega⟩ ⟨by omega, by omega⟩)).mono ?_
      rintro _ W5 ⟨⟨rv, rfl, hrv⟩, hb⟩
      have hB5 := hB4.trans (hb.mono hB4.size)
      obtain ⟨tad, tcap, rfl, _⟩ := hrv.form
      have XR := XR.ext hb
      clear g0 g1 g2 g3 hb he2 hcc hxx
      generalize runR g (.mk 1 1 []) n m = R at *
      obtain ⟨Rr, Rf, Rt, Rs⟩ := R
      dsimp only
      have XR := XR.alloc (.cells #[.int .i64 (Rr : Nat), .bool Rf, .slice tad Rt.length tcap, .int .i64 (Rs : Nat)] 53)
      have r0 := XR.cell 0
      have r1 := XR.cell 1
      have r2 := XR.cell 2
      have r3 := XR.cell 3
      simp only [List.getElem?_toArray, List.getElem?_cons_succ, List.getElem?_cons_zero] at r0 r1 r2 r3
      go_wp2_with fail
      go_ret
      exact ⟨rfl, hB5.alloc hB5.size _⟩
    · refine (run_bad g (.mk 1 1 []) n many he2 _ _ _ (HT.out.ext hB4) (HG.out.ext hB4) (ExprAt.leaf 1 1 ⟨by omega, by omega⟩ ⟨by omega, by omega⟩)).mono ?_
      rintro _ W5 ⟨rfl, hb⟩
      have hB5 := hB4.trans (hb.mono hB4.size)
      have XR := XR.ext hb
      have XR := XR.alloc (.cells #[.int .i64 0, .bool false, .slice none 0 0, .int .i64 0] 53)
      rw [errV_ne he2]
      clear g0 g1 g2 g3 hb he2
      have r0 := XR.cell 0
      have r1 := XR.cell 1
      have r2 := XR.cell 2
      have r3 := XR.cell 3
      simp only [List.getElem?_toArray, List.getElem?_cons_succ, List.getElem?_cons_zero] at r0 r1 r2 r3
      go_wp2_with fail
      go_ret
      exact ⟨rfl, hB5.alloc hB5.size _⟩
  obtain ⟨hcc, hxx, hm0, hm1⟩ := runErr_zero he1
  obtain ⟨m, rfl⟩ := Int.eq_ofNat_of_zero_le hm0
  have hm50 : m ≤ 50 := by omega
  refine (run_ok g x n m hm50 hcc hxx _ _ _ (HT.out.ext hB2) (HG.out.ext hB2) (HX.out.ext hB2)).mono ?_
  rintro _ W3 ⟨⟨rv, rfl, hrv⟩, hb⟩
  have hB3 := hB2.trans (hb.mono hB2.size)
  have HRV := Lib.hid hrv
  have hR := Lib.hid (show runR g x n m = runF g x m (firstS n) 0 from rfl)
  have HLW := Lib.hid (runF_law g x hcc m (firstS n) 0)
  rw [← hR.out] at HLW
  have HCC := Lib.hid hcc
  have HXX := Lib.hid hxx
  obtain ⟨tad, tcap, rfl, _⟩ := hrv.form
  have X0 := X0.ext hb
  have X1 := X1.ext hb
  generalize hrr : (runR g x n m) = R at *
  obtain ⟨Rr, Rf, Rt, Rs⟩ := R
  dsimp only at HLW ⊢
  have X0 := X0.alloc (.cells #[.int .i64 (Rr : Nat), .bool Rf, .slice tad Rt.length tcap, .int .i64 (Rs : Nat)] 53)
  have X1 := X1.alloc (.cells #[.int .i64 (Rr : Nat), .bool Rf, .slice tad Rt.length tcap, .int .i64 (Rs : Nat)] 53)
  have hB4 : Below w.heap.size w (W3.alloc (.cells #[.int .i64 (Rr : Nat), .bool Rf, .slice tad Rt.length tcap, .int .i64 (Rs : Nat)] 53)) := hB3.alloc (hB3.size) _
  have XR : Blk (W3.alloc (.cells #[.int .i64 (Rr : Nat), .bool Rf, .slice tad Rt.length tcap, .int .i64 (Rs : Nat)] 53)) W3.heap.size #[.int .i64 (Rr : Nat), .bool Rf, .slice tad Rt.length tcap, .int .i64 (Rs : Nat)] 53 := Blk.new _ _ _
  have HRV4 := Lib.hid (HRV.out.ext ((Below.refl _ _).alloc (Nat.le_refl _) (.cells #[.int .i64 (Rr : Nat), .bool Rf, .slice tad Rt.length tcap, .int .i64 (Rs : Nat)] 53)))
  clear g0 g1 g2 g3 f0 f1 f2 hb hrr HRV he1 hR hcc hxx hrv
  have g0 := X0.cell 0
  have g1 := X0.cell 1
  have g2 := X0.cell 2
  have g3 := X0.cell 3
  simp only [List.getElem?_toArray, List.getElem?_cons_succ, List.getElem?_cons_zero] at g0 g1 g2 g3
  go_wp2_with fail
  refine (run_ok g (.mk 1 1 []) n m hm50 HCC.out lit_check _ _ _ (HT.out.ext hB4) (HG.out.ext hB4) (ExprAt.leaf 1 1 ⟨by omega, by omega⟩ ⟨by omega, by omega⟩)).mono ?_
  rintro _ W5 ⟨⟨yv, rfl, hyv⟩, hb⟩
  have hB5 := hB4.trans (hb.mono hB4.size)
  have hY := lit_never g m n
  obtain ⟨yad, ycap, rfl, _⟩ := hyv.form
  have X0 := X0.ext hb
  have X1 := X1.ext hb
  have XR := XR.ext hb
  have HRV5 := Lib.hid (HRV4.out.ext hb)
  generalize hyy : (runR g (.mk 1 1 []) n m) = Y at *
  obtain ⟨Yr, Yf, Yt, Ys⟩ := Y
  dsimp only at hY ⊢
  obtain ⟨rfl, rfl⟩ := hY
  have X0 := X0.alloc (.cells #[.int .i64 (Yr : Nat), .bool false, .slice yad Yt.length ycap, .int .i64 (Ys : Nat)] 53)
  have X1 := X1.alloc (.cells #[.int .i64 (Yr : Nat), .bool false, .slice yad Yt.length ycap, .int .i64 (Ys : Nat)] 53)
  have XR := XR.alloc (.cells #[.int .i64 (Yr : Nat), .bool false, .slice yad Yt.length ycap, .int .i64 (Ys : Nat)] 53)
  have XY : Blk (W5.alloc (.cells #[.int .i64 (Yr : Nat), .bool false, .slice yad Yt.length ycap, .int .i64 (Ys : Nat)] 53)) W5.heap.size #[.int .i64 (Yr : Nat), .bool false, .slice yad Yt.length ycap, .int .i64 (Ys : Nat)] 53 := Blk.new _ _ _
  have hB6 : Below w.heap.size w (W5.alloc (.cells #[.int .i64 (Yr : Nat), .bool false, .slice yad Yt.length ycap, .int .i64 (Ys : Nat)] 53)) := hB5.alloc (hB5.size) _
  have HRV6 := Lib.hid (HRV5.out.ext ((Below.refl _ _).alloc (Nat.le_refl _) (.cells #[.int .i64 (Yr : Nat), .bool false, .slice yad Yt.length ycap, .int .i64 (Ys : Nat)] 53)))
  have p1 : ((Yr : Int) == (Yr : Int)) = true := by simp
  clear g0 g1 g2 g3 hb hyy HRV5 HRV4 hyv hm0 hm1
  have r0 := XR.cell 0
  have r1 := XR.cell 1
  have r2 := XR.cell 2
  have r3 := XR.cell 3
  simp only [List.getElem?_toArray, List.getElem?_cons_succ, List.getElem?_cons_zero] at r0 r1 r2 r3
  have y0 := XY.cell 0
  have y1 := XY.cell 1
  have y2 := XY.cell 2
  have y3 := XY.cell 3
  simp only [List.getElem?_toArray, List.getElem?_cons_succ, List.getElem?_cons_zero] at y0 y1 y2 y3
  have g0 := X0.cell 0
  have g1 := X0.cell 1
  have g2 := X0.cell 2
  have g3 := X0.cell 3
  simp only [List.getElem?_toArray, List.getElem?_cons_succ, List.getElem?_cons_zero] at g0 g1 g2 g3
  have f0 := X1.cell 0
  have f1 := X1.cell 1
  have f2 := X1.cell 2
  simp only [List.getElem?_toArray, List.getElem?_cons_succ, List.getElem?_cons_zero] at f0 f1 f2
  cases Rf with
  | false =>
    have hrt : Rt = [] ∧ Rs = 0 := by
      rcases HLW.out with ⟨_, _, h1, h2⟩ | ⟨h, _⟩
      · exact ⟨h1, h2⟩
      · cases h
    obtain ⟨rfl, rfl⟩ := hrt
    clear HLW
    go_wp2_with fail
    go_ret
    exact ⟨rfl, hB6⟩
  | true =>
    have hl : 1 ≤ Rr ∧ Rr ≤ Yr ∧ ∃ t, (playR g t).2 = 0 ∧ badR g x t = true ∧ Rt = (walkR g x t).1 := by
      rcases HLW.out with ⟨h, _⟩ | ⟨_, h1, h2, t, h3, h4, h5, _⟩
      · cases h
      · exact ⟨by omega, by omega, t, h3, h4, h5⟩
    obtain ⟨hl1, hl2, t, ht1, ht2, rfl⟩ := hl
    obtain ⟨k1', k2', k3', _, _⟩ := walk_law _ t (Nat.le_refl _) ht1 ht2
    have hst := walkR_stop k3'
    have HIT : Hid (IntsAt (W5.alloc (.cells #[.int .i64 (Yr : Nat), .bool false, .slice yad Yt.length ycap, .int .i64 (Ys : Nat)] 53)) (.slice tad (walkR g x t).1.length tcap) (walkR g x t).1) := by
      obtain ⟨ad', cap', e1, e2⟩ := HRV6.out.form
      simp only [Value.agg.injEq] at e1
      have e3 := congrArg (fun z : Array Value => z[2]?) e1
      simp at e3
      obtain ⟨rfl, rfl⟩ := e3
      exact e2
    have CW := Lib.hid (shrink_ok g x (walkR g x t).1 k1' HXX.out k2' _ _ _ (W5.alloc (.cells #[.int .i64 (Yr : Nat), .bool false, .slice yad Yt.length ycap, .int .i64 (Ys : Nat)] 53)) (HT.out.ext hB6) (HG.out.ext hB6) (HX.out.ext hB6) HIT.out)
    rw [hst] at CW
    have q1 : (1 : Int) ≤ (Rr : Int) := by omega
    have q2 : (Rr : Int) ≤ (Yr : Int) := by omega
    clear k1' k2' k3' hst HRV6 HLW ht1 ht2 hl1 hl2 X0 X1 XY HG HX HT
    generalize (walkR g x t).1 = M at *
    go_wp2_with fail
    refine CW.out.mono ?_
    rintro _ W7 ⟨⟨mv, rfl, hmv⟩, hb⟩
    have hB7 := hB6.trans (hb.mono hB6.size)
    have XR := XR.ext hb
    have CI := Lib.hid (ints_any _ _ M M W7 hmv.at (HIT.out.ext hb))
    obtain ⟨mad, mcap, rfl, _⟩ := hmv.at.form
    rw [decide_eq_true rfl] at CI
    clear g0 g1 g2 g3 f0 f1 f2 r0 r1 r2 r3 y0 y1 y2 y3 hb hmv CW HIT
    have r0 := XR.cell 0
    have r1 := XR.cell 1
    have r2 := XR.cell 2
    have r3 := XR.cell 3
    simp only [List.getElem?_toArray, List.getElem?_cons_succ, List.getElem?_cons_zero] at r0 r1 r2 r3
    go_wp2_with fail
    refine CI.out.mono ?_
    rintro _ W8 ⟨rfl, n8, rfl⟩
    have hB8 : Below w.heap.size w (W7.drewN n8) := ⟨hB7.os, hB7.tape, hB7.output, hB7.size, hB7.block⟩
    go_wp2_with fail
    go_ret
    exact ⟨rfl, hB8⟩
end Go.Proofs.YtcecpggkeaohnaaDoor
