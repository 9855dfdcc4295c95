/- The walk through the statement RunsAgain. -/
import Derived.Test.YtcecpggkeaohnaaDoorSHB
import Derived.Test.YtcecpggkeaohnaaDoorLMade
namespace Go.Proofs.YtcecpggkeaohnaaDoor
set_option maxRecDepth 100000
open Go.RowKit
set_option linter.unusedSimpArgs false
set_option linter.unusedVariables false
set_option maxRecDepth 100000 in
set_option maxHeartbeats 8000000 in
theorem runsAgain_go {v0 v1 v2 v3 v4 : Value} (w : World) (hT : TakesAt w) (g : GT) (o0 : GenAt w v0 g) (x : ET) (o1 : ExprAt w v1 x) (n : Int) (o2 : IntAt v2 n) (many : Int) (o3 : IntAt v3 many) (more : Int) (o4 : IntAt v4 more) :
    Calls Tryd.prog 11 #[v0, v1, v2, v3, v4] w fun e w' => e = .returned (.bool true) ∧ Below w.heap.size w w' := by
  have HT := Lib.hid hT
  have HG := Lib.hid o0
  have HX := Lib.hid o1
  obtain ⟨k0, a0, b0, n0, ad0, c0, rfl⟩ := o0.shape
  obtain ⟨k1, n1, s1, ad1, c1, rfl⟩ := o1.shape
  obtain ⟨rfl, _⟩ := o2
  obtain ⟨rfl, _⟩ := o3
  obtain ⟨rfl, _⟩ := o4
  clear hT o0 o1
  go_enter Tryd.func11, Tryd.ntmps11
  go_wp2_with fail
  generalize hW0 : ((w.alloc (.cells #[.int .i64 k0, .int .i64 a0, .int .i64 b0, .slice ad0 n0 c0] 41)).alloc (.cells #[.int .i64 k1, .int .i64 n1, .slice ad1 s1 c1] 24)) = W0
  have hB0 : Below w.heap.size w W0 := by rw [← hW0]; repeat (first | with_reducible assumption | with_reducible exact Below.refl _ _ | with_reducible apply Below.drew | (with_reducible refine Below.alloc ?_ (by first | omega | (simp only [World.size_alloc, size_setCell, size_drew, size_drewN]; omega) | (dsimp only; omega) | (simp only [World.size_alloc, size_setCell, size_drew, size_drewN]; dsimp only; omega)) _) | (with_reducible refine Below.setCell ?_ (by first | omega | (simp only [World.size_alloc, size_setCell, size_drew, size_drewN]; omega) | (dsimp only; omega) | (simp only [World.size_alloc, size_setCell, size_drew, size_drewN]; dsimp only; omega)) _) | (with_reducible apply below_drewN))
  have X0 : Blk W0 (w.heap.size) #[.int .i64 k0, .int .i64 a0, .int .i64 b0, .slice ad0 n0 c0] 41 := by rw [← hW0]; exact ((Blk.new w #[.int .i64 k0, .int .i64 a0, .int .i64 b0, .slice ad0 n0 c0] 41)).alloc _
  have X1 : Blk W0 (w.heap.size + 1) #[.int .i64 k1, .int .i64 n1, .slice ad1 s1 c1] 24 := by rw [← hW0]; exact (show Blk ((w.alloc (.cells #[.int .i64 k0, .int .i64 a0, .int .i64 b0, .slice ad0 n0 c0] 41)).alloc (.cells #[.int .i64 k1, .int .i64 n1, .slice ad1 s1 c1] 24)) (w.heap.size + 1) _ _ by simpa using Blk.new (w.alloc (.cells #[.int .i64 k0, .int .i64 a0, .int .i64 b0, .slice ad0 n0 c0] 41)) #[.int .i64 k1, .int .i64 n1, .slice ad1 s1 c1] 24)
  clear hW0
  refine (made_fact _).mono ?_
  rintro e W1 ⟨rfl, hb⟩
  have hB1 : Below w.heap.size w W1 := hB0.trans (hb.mono hB0.size)
  have X0 := X0.ext hb
  have X1 := X1.ext hb
  clear hb hB0
  go_wp2_with fail
  refine (asked_fact _ (HT.out.ext hB1)).mono ?_
  rintro e W2 ⟨rfl, hb⟩
  have hB2 : Below w.heap.size w W2 := hB1.trans (hb.mono hB1.size)
  have X0 := X0.ext hb
  have X1 := X1.ext hb
  clear hb hB1
  have g0 := X0.cell 0
  have g1 := X0.cell 1
  have g2 := X0.cell 2
  have g3 := X0.cell 3
  simp only [List.getElem?_toArray, List.getElem?_cons_succ, List.getElem?_cons_zero] at g0 g1 g2 g3
  have f0 := X1.cell 0
  have f1 := X1.cell 1
  have f2 := X1.cell 2
  simp only [List.getElem?_toArray, List.getElem?_cons_succ, List.getElem?_cons_zero] at f0 f1 f2
  go_wp2_with fail
  by_cases he1 : runErr g x many = 0
  case neg =>
    refine (run_bad g x n many he1 _ _ _ (HT.out.ext hB2) (HG.out.ext hB2) (HX.out.ext hB2)).mono ?_
    rintro _ W3 ⟨rfl, hb⟩
    have hB3 := hB2.trans (hb.mono hB2.size)
    have X0 := X0.ext hb
    have X1 := X1.ext hb
    have X0 := X0.alloc (.cells #[.int .i64 0, .bool false, .slice none 0 0, .int .i64 0] 53)
    have X1 := X1.alloc (.cells #[.int .i64 0, .bool false, .slice none 0 0, .int .i64 0] 53)
    have hB4 : Below w.heap.size w (W3.alloc (.cells #[.int .i64 0, .bool false, .slice none 0 0, .int .i64 0] 53)) := hB3.alloc (hB3.size) _
    clear g0 g1 g2 g3 f0 f1 f2 hb
    have g0 := X0.cell 0
    have g1 := X0.cell 1
    have g2 := X0.cell 2
    have g3 := X0.cell 3
    simp only [List.getElem?_toArray, List.getElem?_cons_succ, List.getElem?_cons_zero] at g0 g1 g2 g3
    have f0 := X1.cell 0
    have f1 := X1.cell 1
    have f2 := X1.cell 2
    simp only [List.getElem?_toArray, List.getElem?_cons_succ, List.getElem?_cons_zero] at f0 f1 f2
    rw [errV_ne he1]
    clear he1
    go_wp2_with fail
    by_cases he2 : runErr g x more = 0
    · obtain ⟨_, _, hm0, hm1⟩ := runErr_zero he2
      have hcc := (runErr_zero he2).1
      have hxx := (runErr_zero he2).2.1
      obtain ⟨m, rfl⟩ := Int.eq_ofNat_of_zero_le hm0
      refine (run_ok g x n m (by omega) hcc hxx _ _ _ (HT.out.ext hB4) (HG.out.ext hB4) (HX.out.ext hB4)).mono ?_
      rintro _ W5 ⟨⟨rv, rfl, hrv⟩, hb⟩
      have hB5 := hB4.trans (hb.mono hB4.size)
      obtain ⟨tad, tcap, rfl, _⟩ := hrv.form
      clear g0 g1 g2 g3 f0 f1 f2 hb he2 hcc hxx
      generalize runR g x n m = R at *
      obtain ⟨Rr, Rf, Rt, Rs⟩ := R
      dsimp only
      go_wp2_with fail
      go_ret
      exact ⟨rfl, hB5.alloc hB5.size _⟩
    · refine (run_bad g x n more he2 _ _ _ (HT.out.ext hB4) (HG.out.ext hB4) (HX.out.ext hB4)).mono ?_
      rintro _ W5 ⟨rfl, hb⟩
      have hB5 := hB4.trans (hb.mono hB4.size)
      rw [errV_ne he2]
      clear g0 g1 g2 g3 f0 f1 f2 hb he2
      go_wp2_with fail
      go_ret
      exact ⟨rfl, hB5.alloc hB5.size _⟩
  obtain ⟨_, _, hm0, hm1⟩ := runErr_zero he1
  have hcc := (runErr_zero he1).1
  have hxx := (runErr_zero he1).2.1
  obtain ⟨m, rfl⟩ := Int.eq_ofNat_of_zero_le hm0
  have hm50 : m ≤ 50 := by omega
  refine (run_ok g x n m hm50 hcc hxx _ _ _ (HT.out.ext hB2) (HG.out.ext hB2) (HX.out.ext hB2)).mono ?_
  rintro _ W3 ⟨⟨rv, rfl, hrv⟩, hb⟩
  have hB3 := hB2.trans (hb.mono hB2.size)
  have HRV := Lib.hid hrv
  have HF1 := Lib.hid (runF_fit g x hcc m (firstS n) 0)
  have hR := Lib.hid (show runR g x n m = runF g x m (firstS n) 0 from rfl)
  obtain ⟨tad, tcap, rfl, _⟩ := hrv.form
  have X0 := X0.ext hb
  have X1 := X1.ext hb
  generalize hrr : (runR g x n m) = R at *
  obtain ⟨Rr, Rf, Rt, Rs⟩ := R
  dsimp only
  have X0 := X0.alloc (.cells #[.int .i64 (Rr : Nat), .bool Rf, .slice tad Rt.length tcap, .int .i64 (Rs : Nat)] 53)
  have X1 := X1.alloc (.cells #[.int .i64 (Rr : Nat), .bool Rf, .slice tad Rt.length tcap, .int .i64 (Rs : Nat)] 53)
  have hB4 : Below w.heap.size w (W3.alloc (.cells #[.int .i64 (Rr : Nat), .bool Rf, .slice tad Rt.length tcap, .int .i64 (Rs : Nat)] 53)) := hB3.alloc (hB3.size) _
  have XR : Blk (W3.alloc (.cells #[.int .i64 (Rr : Nat), .bool Rf, .slice tad Rt.length tcap, .int .i64 (Rs : Nat)] 53)) W3.heap.size #[.int .i64 (Rr : Nat), .bool Rf, .slice tad Rt.length tcap, .int .i64 (Rs : Nat)] 53 := Blk.new _ _ _
  have HRR := Lib.hid hrr
  have HRV4 := Lib.hid (HRV.out.ext ((Below.refl _ _).alloc (Nat.le_refl _) (.cells #[.int .i64 (Rr : Nat), .bool Rf, .slice tad Rt.length tcap, .int .i64 (Rs : Nat)] 53)))
  clear g0 g1 g2 g3 f0 f1 f2 hb hrr HRV he1
  have g0 := X0.cell 0
  have g1 := X0.cell 1
  have g2 := X0.cell 2
  have g3 := X0.cell 3
  simp only [List.getElem?_toArray, List.getElem?_cons_succ, List.getElem?_cons_zero] at g0 g1 g2 g3
  have f0 := X1.cell 0
  have f1 := X1.cell 1
  have f2 := X1.cell 2
  simp only [List.getElem?_toArray, List.getElem?_cons_succ, List.getElem?_cons_zero] at f0 f1 f2
  clear hcc hxx
  go_wp2_with fail
  by_cases he2 : runErr g x more = 0
  case neg =>
    refine (run_bad g x n more he2 _ _ _ (HT.out.ext hB4) (HG.out.ext hB4) (HX.out.ext hB4)).mono ?_
    rintro _ W5 ⟨rfl, hb⟩
    have hB5 := hB4.trans (hb.mono hB4.size)
    rw [errV_ne he2]
    clear g0 g1 g2 g3 f0 f1 f2 hb he2
    go_wp2_with fail
    go_ret
    exact ⟨rfl, hB5.alloc hB5.size _⟩
  obtain ⟨hcc, hxx, hl0, hl1⟩ := runErr_zero he2
  obtain ⟨l, rfl⟩ := Int.eq_ofNat_of_zero_le hl0
  have hl50 : l ≤ 50 := by omega
  refine (run_ok g x n l hl50 hcc hxx _ _ _ (HT.out.ext hB4) (HG.out.ext hB4) (HX.out.ext hB4)).mono ?_
  rintro _ W5 ⟨⟨qv, rfl, hqv⟩, hb⟩
  have hB5 := hB4.trans (hb.mono hB4.size)
  have HQV := Lib.hid hqv
  have HF2 := Lib.hid (runF_fit g x hcc l (firstS n) 0)
  have hQ := Lib.hid (show runR g x n l = runF g x l (firstS n) 0 from rfl)
  have HM := Lib.hid (runF_more g x m l (firstS n) 0)
  have HLW := Lib.hid (runF_law g x hcc m (firstS n) 0)
  obtain ⟨qad, qcap, rfl, _⟩ := hqv.form
  have XR := XR.ext hb
  have HRV5 := Lib.hid (HRV4.out.ext hb)
  rw [← hR.out, ← hQ.out] at HM
  rw [← hR.out] at HLW HF1
  rw [← hQ.out] at HF2
  generalize hqq : (runR g x n l) = Q at *
  obtain ⟨Qr, Qf, Qt, Qs⟩ := Q
  dsimp only at HM HLW HF1 HF2 ⊢
  have XR := XR.alloc (.cells #[.int .i64 (Qr : Nat), .bool Qf, .slice qad Qt.length qcap, .int .i64 (Qs : Nat)] 53)
  have XQ : Blk (W5.alloc (.cells #[.int .i64 (Qr : Nat), .bool Qf, .slice qad Qt.length qcap, .int .i64 (Qs : Nat)] 53)) W5.heap.size #[.int .i64 (Qr : Nat), .bool Qf, .slice qad Qt.length qcap, .int .i64 (Qs : Nat)] 53 := Blk.new _ _ _
  have hB6 : Below w.heap.size w (W5.alloc (.cells #[.int .i64 (Qr : Nat), .bool Qf, .slice qad Qt.length qcap, .int .i64 (Qs : Nat)] 53)) := hB5.alloc (hB5.size) _
  have hWQ : Below W5.heap.size W5 (W5.alloc (.cells #[.int .i64 (Qr : Nat), .bool Qf, .slice qad Qt.length qcap, .int .i64 (Qs : Nat)] 53)) := (Below.refl _ _).alloc (Nat.le_refl _) _
  have C6 := Lib.hid (report_any _ _ HF1.out.1 HF2.out.1 _ _ (W5.alloc (.cells #[.int .i64 (Qr : Nat), .bool Qf, .slice qad Qt.length qcap, .int .i64 (Qs : Nat)] 53)) (HRV5.out.ext hWQ) (HQV.out.ext hWQ))
  clear g0 g1 g2 g3 f0 f1 f2 hb hqq HQV hWQ HRV5 HRV4 hqv hcc hxx he2 HT HG HX X0 X1 hl0 hl1 hm0 hm1 hR hQ HRR
  have r0 := XR.cell 0
  have r1 := XR.cell 1
  have r2 := XR.cell 2
  have r3 := XR.cell 3
  simp only [List.getElem?_toArray, List.getElem?_cons_succ, List.getElem?_cons_zero] at r0 r1 r2 r3
  have q0 := XQ.cell 0
  have q1 := XQ.cell 1
  have q2 := XQ.cell 2
  have q3 := XQ.cell 3
  simp only [List.getElem?_toArray, List.getElem?_cons_succ, List.getElem?_cons_zero] at q0 q1 q2 q3
  go_wp2_with fail
  refine C6.out.mono ?_
  rintro _ W7 ⟨bq, rfl, hbq, hb⟩
  have hB7 := hB6.trans (hb.mono hB6.size)
  have XR := XR.ext hb
  have XQ := XQ.ext hb
  have HBQ := Lib.hid hbq
  clear r0 r1 r2 r3 q0 q1 q2 q3 hb hbq C6 HF1 HF2
  have r0 := XR.cell 0
  have r1 := XR.cell 1
  have r2 := XR.cell 2
  have r3 := XR.cell 3
  simp only [List.getElem?_toArray, List.getElem?_cons_succ, List.getElem?_cons_zero] at r0 r1 r2 r3
  have q0 := XQ.cell 0
  have q1 := XQ.cell 1
  have q2 := XQ.cell 2
  have q3 := XQ.cell 3
  simp only [List.getElem?_toArray, List.getElem?_cons_succ, List.getElem?_cons_zero] at q0 q1 q2 q3
  obtain ⟨hM1, hM2, hM3⟩ := HM.out
  cases Rf with
  | true =>
    by_cases hle : Rr ≤ l
    · have he := hM1 rfl (by omega)
      have hb1 := HBQ.out he.symm
      subst hb1
      have p1 : (Rr : Int) ≤ (l : Int) := by omega
      clear hM1 hM2 hM3 he HM HLW
      go_wp2_with fail
      go_ret
      exact ⟨rfl, hB7⟩
    · obtain ⟨he1, he2⟩ := hM2 rfl (by omega)
      simp only [Nat.zero_add] at he2
      subst he1 he2
      have p1 : ¬ (Rr : Int) ≤ (Qr : Int) := by omega
      have p2 : ((Qr : Int) == (Qr : Int)) = true := by simp
      clear hM1 hM2 hM3 HM HLW
      go_wp2_with fail
      go_ret
      exact ⟨rfl, hB7⟩
  | false =>
    have hrm : Rr = m := by
      rcases HLW.out with ⟨_, h, _⟩ | ⟨h, _⟩
      · omega
      · cases h
    subst hrm
    have p2 : ((Rr : Int) == (Rr : Int)) = true := by simp
    by_cases hle : l ≤ Rr
    · obtain ⟨he1, he2⟩ := hM3 rfl hle
      simp only [Nat.zero_add] at he2
      subst he1 he2
      have p1 : ¬ (Rr : Int) < (Qr : Int) := by omega
      have p3 : ((Qr : Int) == (Qr : Int)) = true := by simp
      clear hM1 hM2 hM3 HM HLW
      go_wp2_with fail
      go_ret
      exact ⟨rfl, hB7⟩
    · have p1 : (Rr : Int) < (l : Int) := by omega
      clear hM1 hM2 hM3 HM HLW
      go_wp2_with fail
      go_ret
      exact ⟨rfl, hB7⟩
end Go.Proofs.YtcecpggkeaohnaaDoor
