/- The walk through the statement TopLeast. -/
import Derived.Test.YtcecpggkeaohnaaDoorPTop
import Derived.Test.YtcecpggkeaohnaaDoorLShrinkNumber
namespace Go.Proofs.YtcecpggkeaohnaaDoor
set_option maxRecDepth 100000
open Go.RowKit
set_option linter.unusedSimpArgs false
set_option linter.unusedVariables false
theorem just_at (w : World) : GenAt w (.agg #[.int .i64 1, .int .i64 0, .int .i64 0, .slice none 0 0]) (.mk 1 0 0 []) :=
  GenAt.mk (s := []) ⟨by omega, by omega⟩ ⟨by omega, by omega⟩ ⟨by omega, by omega⟩ (by simp) (by simp) (fun _ => rfl) (fun _ => .nilIface) (fun h => absurd h (by simp)) (fun i hi => absurd hi (by simp))
theorem just_fact (w : World) : Calls Tryd.prog 18 #[.agg #[.int .i64 1, .int .i64 0, .int .i64 0, .slice none 0 0]] w fun e w' => e = .returned (.tuple #[.int .i64 1, .nilIface]) ∧ Below w.heap.size w w' := by
  have h := gen_count_any (.mk 1 0 0 []) _ w (just_at w)
  have e : GT.countR (.mk 1 0 0 []) = (1, 0) := by decide +kernel
  rw [e, errV_zero] at h
  exact h
set_option maxRecDepth 100000 in
set_option maxHeartbeats 8000000 in
theorem topLeast_go {v0 v1 v2 v3 : Value} (w : World) (hT : TakesAt w) (a : Int) (o0 : IntAt v0 a) (b : Int) (o1 : IntAt v1 b) (e : Int) (o2 : IntAt v2 e) (x : Int) (o3 : IntAt v3 x) :
    Calls Tryd.prog 5 #[v0, v1, v2, v3] w fun ev w' => ev = .returned (.bool true) ∧ Below w.heap.size w w' := by
  have HT := Lib.hid hT
  obtain ⟨rfl, ha⟩ := o0
  obtain ⟨rfl, hb⟩ := o1
  obtain ⟨rfl, he⟩ := o2
  obtain ⟨rfl, hx⟩ := o3
  have HA := Lib.hid ha
  have HB := Lib.hid hb
  have HE := Lib.hid he
  have HX := Lib.hid hx
  clear hT ha hb he hx
  go_enter Tryd.func5, Tryd.ntmps5
  go_wp2_with fail
  have hBW : Below w.heap.size w (((w.alloc (.cells #[.int .i64 2, .int .i64 a, .int .i64 b, .slice none 0 0] 41)).alloc (.cells #[.int .i64 2, .int .i64 0, .slice none 0 0, .int .i64 1, .int .i64 e, .slice none 0 0] 24)).alloc (.cells #[.int .i64 7, .int .i64 0, .slice (some ⟨w.heap.size + 1, 0, none⟩) 2 2] 24)) := by repeat (first | with_reducible assumption | with_reducible exact Below.refl _ _ | with_reducible apply Below.drew | (with_reducible refine Below.alloc ?_ (by first | omega | (simp only [World.size_alloc, size_setCell, size_drew, size_drewN]; omega) | (dsimp only; omega) | (simp only [World.size_alloc, size_setCell, size_drew, size_drewN]; dsimp only; omega)) _) | (with_reducible refine Below.setCell ?_ (by first | omega | (simp only [World.size_alloc, size_setCell, size_drew, size_drewN]; omega) | (dsimp only; omega) | (simp only [World.size_alloc, size_setCell, size_drew, size_drewN]; dsimp only; omega)) _) | (with_reducible apply below_drewN))
  have XG : Blk (((w.alloc (.cells #[.int .i64 2, .int .i64 a, .int .i64 b, .slice none 0 0] 41)).alloc (.cells #[.int .i64 2, .int .i64 0, .slice none 0 0, .int .i64 1, .int .i64 e, .slice none 0 0] 24)).alloc (.cells #[.int .i64 7, .int .i64 0, .slice (some ⟨w.heap.size + 1, 0, none⟩) 2 2] 24)) w.heap.size #[.int .i64 2, .int .i64 a, .int .i64 b, .slice none 0 0] 41 := ((Blk.new _ _ _).alloc _).alloc _
  have XB : Blk (((w.alloc (.cells #[.int .i64 2, .int .i64 a, .int .i64 b, .slice none 0 0] 41)).alloc (.cells #[.int .i64 2, .int .i64 0, .slice none 0 0, .int .i64 1, .int .i64 e, .slice none 0 0] 24)).alloc (.cells #[.int .i64 7, .int .i64 0, .slice (some ⟨w.heap.size + 1, 0, none⟩) 2 2] 24)) (w.heap.size + 1) #[.int .i64 2, .int .i64 0, .slice none 0 0, .int .i64 1, .int .i64 e, .slice none 0 0] 24 := (show Blk _ _ _ _ by simpa using Blk.new (w.alloc (.cells #[.int .i64 2, .int .i64 a, .int .i64 b, .slice none 0 0] 41)) #[.int .i64 2, .int .i64 0, .slice none 0 0, .int .i64 1, .int .i64 e, .slice none 0 0] 24).alloc _
  have XE : Blk (((w.alloc (.cells #[.int .i64 2, .int .i64 a, .int .i64 b, .slice none 0 0] 41)).alloc (.cells #[.int .i64 2, .int .i64 0, .slice none 0 0, .int .i64 1, .int .i64 e, .slice none 0 0] 24)).alloc (.cells #[.int .i64 7, .int .i64 0, .slice (some ⟨w.heap.size + 1, 0, none⟩) 2 2] 24)) (w.heap.size + 1 + 1) #[.int .i64 7, .int .i64 0, .slice (some ⟨w.heap.size + 1, 0, none⟩) 2 2] 24 := by simpa using Blk.new ((w.alloc (.cells #[.int .i64 2, .int .i64 a, .int .i64 b, .slice none 0 0] 41)).alloc (.cells #[.int .i64 2, .int .i64 0, .slice none 0 0, .int .i64 1, .int .i64 e, .slice none 0 0] 24)) #[.int .i64 7, .int .i64 0, .slice (some ⟨w.heap.size + 1, 0, none⟩) 2 2] 24
  generalize (((w.alloc (.cells #[.int .i64 2, .int .i64 a, .int .i64 b, .slice none 0 0] 41)).alloc (.cells #[.int .i64 2, .int .i64 0, .slice none 0 0, .int .i64 1, .int .i64 e, .slice none 0 0] 24)).alloc (.cells #[.int .i64 7, .int .i64 0, .slice (some ⟨w.heap.size + 1, 0, none⟩) 2 2] 24)) = W1 at *
  refine (just_fact _).mono ?_
  rintro _ W2 ⟨rfl, hb2⟩
  have hB2 := hBW.trans (hb2.mono hBW.size)
  have XG := XG.ext hb2
  have XB := XB.ext hb2
  have XE := XE.ext hb2
  clear hb2 hBW
  have g0 := XG.cell 0
  have g1 := XG.cell 1
  have g2 := XG.cell 2
  have g3 := XG.cell 3
  simp only [List.getElem?_toArray, List.getElem?_cons_succ, List.getElem?_cons_zero] at g0 g1 g2 g3
  have f0 := XE.cell 0
  have f1 := XE.cell 1
  have f2 := XE.cell 2
  simp only [List.getElem?_toArray, List.getElem?_cons_succ, List.getElem?_cons_zero] at f0 f1 f2
  go_wp2_with fail
  have hB3 : Below w.heap.size w (W2.alloc (.cells #[.int .i64 x] 3)) := hB2.alloc hB2.size _
  have XG := XG.alloc (.cells #[.int .i64 x] 3)
  have XB := XB.alloc (.cells #[.int .i64 x] 3)
  have XE := XE.alloc (.cells #[.int .i64 x] 3)
  have XT := Blk.new W2 #[.int .i64 x] 3
  clear g0 g1 g2 g3 f0 f1 f2
  generalize hW3 : W2.alloc (.cells #[.int .i64 x] 3) = W3 at *
  clear hW3
  have gA := num_at W3 a b HA.out HB.out
  have eA := edge_at e HE.out XB
  have tA := one_at x HX.out XT
  have HWN := Lib.hid (walk_number (a := a) (b := b) (e := e) (x := x))
  by_cases hz : shErr (gNum a b) (xEdge e) [x] = 0
  case neg =>
    refine (shrink_bad (gNum a b) (xEdge e) [x] hz _ _ _ W3 (HT.out.ext hB3) gA eA tA).mono ?_
    rw [errV_ne hz]
    rintro _ w4 ⟨rfl, hb4⟩
    have hB4 := hB3.trans (hb4.mono hB3.size)
    clear gA eA tA HWN hz hb4 XG XB XE XT
    go_wp2_with fail
    go_ret
    exact ⟨rfl, hB4⟩
  obtain ⟨hg0, hx0, hp0, hb0⟩ := shErr_zero hz
  have hr := num_range hg0
  obtain ⟨c, hc1, hc2, hc3, hc4⟩ := HWN.out hp0 hb0
  refine (shrink_ok (gNum a b) (xEdge e) [x] hp0 hx0 hb0 _ _ _ W3 (HT.out.ext hB3) gA eA tA).mono ?_
  rw [hc1]
  rintro _ W4 ⟨⟨mv, rfl, hmv⟩, hb4⟩
  have hB4 := hB3.trans (hb4.mono hB3.size)
  have XG := XG.ext hb4
  have XB := XB.ext hb4
  have XE := XE.ext hb4
  have HMV := Lib.hid hmv.at
  have HG0 := Lib.hid hg0
  have HC1 := Lib.hid hc1
  have HC2 := Lib.hid hc2
  obtain ⟨mb, mo, mcap, rfl, hm0⟩ := hmv.single
  have CC := Lib.hid (gen_count_any (gNum a b) _ W4 (num_at W4 a b HA.out HB.out))
  rw [num_countR hg0, errV_zero] at CC
  have ha1 : -1073741824 ≤ a := hr.1
  have ha2 : b ≤ 1073741824 := hr.2.1
  have ha3 : a ≤ b := hr.2.2.1
  have ha4 : b - a ≤ 1000 := hr.2.2.2
  clear gA eA tA HWN hz hg0 hx0 hp0 hb0 hc1 hc2 hmv hb4 XT hr hm0
  generalize (walkR (gNum a b) (xEdge e) [x]).2 = k at *
  have g0 := XG.cell 0
  have g1 := XG.cell 1
  have g2 := XG.cell 2
  have g3 := XG.cell 3
  simp only [List.getElem?_toArray, List.getElem?_cons_succ, List.getElem?_cons_zero] at g0 g1 g2 g3
  go_wp2_with fail
  refine CC.out.mono ?_
  rintro _ W5 ⟨rfl, hb5⟩
  have hB5 := hB4.trans (hb5.mono hB4.size)
  have XG := XG.ext hb5
  have XB := XB.ext hb5
  have XE := XE.ext hb5
  have HMV := Lib.hid (HMV.out.ext hb5)
  clear g0 g1 g2 g3 hb5 CC
  go_wp2_with fail
  go_loopw [18] (fun i wr => ∃ j : Nat, (j : Int) ≤ c ∧ i = .int .i64 j ∧ Below W5.heap.size W5 wr) (fun i _ => (c + 1).toNat - (intOf i).toNat)
  case atStart => exact ⟨0, by omega, rfl, Below.refl _ _⟩
  case round =>
    obtain ⟨j, hj, rfl, hbr⟩ := hrel
    have hzr := hbr.size
    have hzl := hB5.size
    have hBr : Below w.heap.size w wr := hB5.trans (hbr.mono hzl)
    have q0 : (0 : Int) ≤ (j : Int) := by omega
    have q1 : (j : Int) < b - a + 1 := by omega
    have XG := XG.ext hbr
    have XB := XB.ext hbr
    have XE := XE.ext hbr
    have HMVr := Lib.hid (HMV.out.ext hbr)
    have gR := num_at wr a b HA.out HB.out
    have g0 := XG.cell 0
    have g1 := XG.cell 1
    have g2 := XG.cell 2
    have g3 := XG.cell 3
    simp only [List.getElem?_toArray, List.getElem?_cons_succ, List.getElem?_cons_zero] at g0 g1 g2 g3
    go_wp2_with fail
    refine (nth_any (gNum a b) (num_ok HG0.out) j q0 (by rw [num_count HG0.out]; omega) _ wr gR).mono ?_
    rintro _ W6 ⟨⟨tv, t, rfl, hot, hin, _, hnr⟩, hb6⟩
    have ht := num_nth hnr.out
    subst ht
    have HTV := Lib.hid (hot.at (in64_of hin))
    have hB6 := hBr.trans (hb6.mono hBr.size)
    have XG := XG.ext hb6
    have XB := XB.ext hb6
    have XE := XE.ext hb6
    have HMVr := Lib.hid (HMVr.out.ext hb6)
    have hb06 := hbr.trans (hb6.mono hzr)
    clear g0 g1 g2 g3 gR hot hin hnr hb6
    have gR := num_at W6 a b HA.out HB.out
    have g0 := XG.cell 0
    have g1 := XG.cell 1
    have g2 := XG.cell 2
    have g3 := XG.cell 3
    simp only [List.getElem?_toArray, List.getElem?_cons_succ, List.getElem?_cons_zero] at g0 g1 g2 g3
    go_wp2_with fail
    refine (replay_any (gNum a b) [(j : Int)] _ _ W6 gR HTV.out).mono ?_
    have hpl := num_play HG0.out (j : Int)
    rw [if_neg (by omega)] at hpl
    rw [hpl, errV_zero]
    rintro _ W7 ⟨⟨vv, rfl, hvv⟩, hb7⟩
    obtain ⟨vl, vn, vk, vad, vcap, rfl⟩ := hvv.shape
    have hB7 := hB6.trans (hb7.mono hB6.size)
    have XB := XB.ext hb7
    have XE := XE.ext hb7
    have HTV := Lib.hid (HTV.out.ext hb7)
    have HMVr := Lib.hid (HMVr.out.ext hb7)
    have hb07 := hb06.trans (hb7.mono hb06.size)
    have XB := XB.alloc (.cells #[.bool vl, .int .i64 vn, .slice vad vk vcap] 27)
    have XE := XE.alloc (.cells #[.bool vl, .int .i64 vn, .slice vad vk vcap] 27)
    have hB8 : Below w.heap.size w (W7.alloc (.cells #[.bool vl, .int .i64 vn, .slice vad vk vcap] 27)) := hB7.alloc hB7.size _
    have hb08 : Below W5.heap.size W5 (W7.alloc (.cells #[.bool vl, .int .i64 vn, .slice vad vk vcap] 27)) := hb07.alloc hb07.size _
    have hb1 : Below W7.heap.size W7 (W7.alloc (.cells #[.bool vl, .int .i64 vn, .slice vad vk vcap] 27)) := (Below.refl _ _).alloc (Nat.le_refl _) _
    have CF := Lib.hid (fails_any (xEdge e) _ _ _ _ (HT.out.ext hB8) (edge_at e HE.out XB) (hvv.ext hb1))
    have HTV := Lib.hid (HTV.out.ext hb1)
    have HMVr := Lib.hid (HMVr.out.ext hb1)
    have hfl := num_fails (e := e) HG0.out (j : Int) q0 (by omega)
    rw [hpl] at hfl
    rw [hfl, errV_zero] at CF
    clear g0 g1 g2 g3 gR hvv hb7 hpl hfl hb1
    have f0 := XE.cell 0
    have f1 := XE.cell 1
    have f2 := XE.cell 2
    simp only [List.getElem?_toArray, List.getElem?_cons_succ, List.getElem?_cons_zero] at f0 f1 f2
    go_wp2_with fail
    refine CF.out.mono ?_
    rintro _ W9 ⟨rfl, hb9⟩
    have hB9 := hB8.trans (hb9.mono hB8.size)
    have hb09 := hb08.trans (hb9.mono hb08.size)
    have HTV := Lib.hid (HTV.out.ext hb9)
    have HMVr := Lib.hid (HMVr.out.ext hb9)
    clear f0 f1 f2 hb9 CF
    by_cases hjc : (j : Int) = c
    · have hd : e ≤ a + (j : Int) := by have := HC2.out; omega
      rw [decide_eq_true hd]
      have CI := Lib.hid (ints_any _ _ [c] [(j : Int)] W9 HMVr.out HTV.out)
      rw [decide_eq_true (by rw [hjc])] at CI
      obtain ⟨tad, tcap, rfl, _⟩ := HTV.out.form
      clear hd hjc hj
      go_wp2_with fail
      refine CI.out.mono ?_
      rintro _ W10 ⟨rfl, n10, rfl⟩
      have hB10 : Below w.heap.size w (W9.drewN n10) := ⟨hB9.os, hB9.tape, hB9.output, hB9.size, hB9.block⟩
      go_wp2_with fail
      go_ret
      exact ⟨rfl, hB10⟩
    · have hd : ¬ e ≤ a + (j : Int) := by have := HC2.out; omega
      rw [decide_eq_false hd]
      clear hd
      have hj1 : (j : Int) + 1 ≤ c := by omega
      clear hjc
      go_wp2_with fail
      exact ⟨⟨j + 1, by omega, by go_num, hb09⟩, by simp [intOf]; omega⟩
end Go.Proofs.YtcecpggkeaohnaaDoor
