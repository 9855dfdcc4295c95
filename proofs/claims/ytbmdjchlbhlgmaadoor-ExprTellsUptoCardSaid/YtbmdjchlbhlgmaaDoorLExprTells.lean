/- The walk through the statement ExprTells. -/
import Derived.Test.YtbmdjchlbhlgmaaDoorRX1
import Derived.Test.YtbmdjchlbhlgmaaDoorRX3
import Derived.Test.YtbmdjchlbhlgmaaDoorPWt
import Derived.Test.YtbmdjchlbhlgmaaDoorEXB
import Derived.Test.YtbmdjchlbhlgmaaDoorTAs
namespace Go.Proofs.YtbmdjchlbhlgmaaDoor
set_option maxRecDepth 100000
open Go.RowKit
set_option linter.unusedSimpArgs false
set_option linter.unusedVariables false
set_option maxHeartbeats 8000000 in
theorem exprTells_go (w : World) (hT : TakesAt w) (hE : ErrTypeAt w) {xv vv : Value} (x : ET) (hx : ExprAt w xv x) (v : VT) (hv : ValAt w vv v) (hlv : (VT.leaves v).length ≤ 17592186044416) :
    Calls Tryd.prog 3 #[xv, vv] w fun e w' => e = .returned (.bool true) ∧ Below w.heap.size w w' := by
  obtain ⟨k0, n0, s0, a0, c0, rfl⟩ := hx.shape
  obtain ⟨l3, n3, s3, a3, c3, rfl⟩ := hv.shape
  have HT := Lib.hid hT
  have HE := Lib.hid hE
  have HX := Lib.hid hx
  have HV := Lib.hid hv
  have HLV := Lib.hid hlv
  clear hT hE hx hv hlv
  go_enter Tryd.func3, Tryd.ntmps3
  go_wp2_with fail
  generalize hW0 : ((w.alloc (.cells #[.int .i64 k0, .int .i64 n0, .slice a0 s0 c0] 24)).alloc (.cells #[.bool l3, .int .i64 n3, .slice a3 s3 c3] 27)) = W0
  have hB0 : Below w.heap.size w W0 := by rw [← hW0]; repeat (first | with_reducible assumption | with_reducible exact Below.refl _ _ | with_reducible apply Below.drew | (with_reducible refine Below.alloc ?_ (by first | omega | (simp only [World.size_alloc, size_setCell, size_drew, size_drewN]; omega) | (dsimp only; omega) | (simp only [World.size_alloc, size_setCell, size_drew, size_drewN]; dsimp only; omega)) _) | (with_reducible refine Below.setCell ?_ (by first | omega | (simp only [World.size_alloc, size_setCell, size_drew, size_drewN]; omega) | (dsimp only; omega) | (simp only [World.size_alloc, size_setCell, size_drew, size_drewN]; dsimp only; omega)) _) | (with_reducible apply below_drewN))
  have X0 : Blk W0 (w.heap.size) #[.int .i64 k0, .int .i64 n0, .slice a0 s0 c0] 24 := by rw [← hW0]; exact ((Blk.new w #[.int .i64 k0, .int .i64 n0, .slice a0 s0 c0] 24)).alloc _
  have X1 : Blk W0 (w.heap.size + 1) #[.bool l3, .int .i64 n3, .slice a3 s3 c3] 27 := by rw [← hW0]; exact (show Blk ((w.alloc (.cells #[.int .i64 k0, .int .i64 n0, .slice a0 s0 c0] 24)).alloc (.cells #[.bool l3, .int .i64 n3, .slice a3 s3 c3] 27)) (w.heap.size + 1) _ _ by simpa using Blk.new (w.alloc (.cells #[.int .i64 k0, .int .i64 n0, .slice a0 s0 c0] 24)) #[.bool l3, .int .i64 n3, .slice a3 s3 c3] 27)
  clear hW0
  refine (asked_fact _ (HT.out.ext hB0)).mono ?_
  rintro e W1 ⟨rfl, hb⟩
  have hB1 : Below w.heap.size w W1 := hB0.trans (hb.mono hB0.size)
  have X0 := X0.ext hb
  have X1 := X1.ext hb
  clear hb hB0
  have f0_0 := X0.cell 0
  have f0_1 := X0.cell 1
  have f0_2 := X0.cell 2
  simp only [List.getElem?_toArray, List.getElem?_cons_succ, List.getElem?_cons_zero] at f0_0 f0_1 f0_2
  go_wp2_with fail
  refine (rxfault_any x _ _ (HX.out.ext hB1)).mono ?_
  rintro e W2 ⟨rfl, hb⟩
  clear f0_0 f0_1 f0_2
  have hB2 : Below w.heap.size w W2 := hB1.trans (hb.mono hB1.size)
  have X0 := X0.ext hb
  have X1 := X1.ext hb
  clear hb hB1
  have f0_0 := X0.cell 0
  have f0_1 := X0.cell 1
  have f0_2 := X0.cell 2
  simp only [List.getElem?_toArray, List.getElem?_cons_succ, List.getElem?_cons_zero] at f0_0 f0_1 f0_2
  go_wp2_with fail
  refine (xcheck_any x _ _ (HT.out.ext hB2) (HX.out.ext hB2)).mono ?_
  rintro e W3 ⟨rfl, hb⟩
  clear f0_0 f0_1 f0_2
  have hB3 : Below w.heap.size w W3 := hB2.trans (hb.mono hB2.size)
  have X0 := X0.ext hb
  have X1 := X1.ext hb
  clear hb hB2
  go_wp2_with fail
  refine (error_yes (ET.check x) _ (HE.out.ext hB3)).mono ?_
  rintro e W4 ⟨rfl, hb⟩
  have hB4 : Below w.heap.size w W4 := hB3.trans (hb.mono hB3.size)
  have X0 := X0.ext hb
  have X1 := X1.ext hb
  clear hb hB3
  by_cases hx0 : ET.check x = 0
  case neg =>
    have hq : (ET.check x == 0) = false := by simpa using hx0
    have h6 : ET.check x ≠ 6 := by rcases ET.check_cases x with h | h | h <;> omega
    have HEV : Hid (ET.evalR x v = (0, ET.check x)) := by show _ = _; unfold ET.evalR; rw [if_pos hx0]
    have HFV : Hid (ET.failsR x v = (false, ET.check x)) := by show _ = _; unfold ET.failsR; rw [HEV.out]; simp only; rw [if_neg h6, if_pos hx0]
    clear hx0 h6
    generalize ET.check x = ce at *
    have HCE : Hid (∀ W, Below w.heap.size w W → Calls Tryd.prog 20 #[.agg #[.int .i64 k0, .int .i64 n0, .slice a0 s0 c0], .agg #[.bool l3, .int .i64 n3, .slice a3 s3 c3]] W fun e w' => e = .returned (.tuple #[.int .i64 (0), errV (ce)]) ∧ Below W.heap.size W w') := fun W h => by have := eval_any x v _ _ W (HT.out.ext h) (HX.out.ext h) (HV.out.ext h); rw [HEV.out] at this; exact this
    have HCF : Hid (∀ W, Below w.heap.size w W → Calls Tryd.prog 21 #[.agg #[.int .i64 k0, .int .i64 n0, .slice a0 s0 c0], .agg #[.bool l3, .int .i64 n3, .slice a3 s3 c3]] W fun e w' => e = .returned (.tuple #[.bool (false), errV (ce)]) ∧ Below W.heap.size W w') := fun W h => by have := fails_any x v _ _ W (HT.out.ext h) (HX.out.ext h) (HV.out.ext h); rw [HFV.out] at this; exact this
    have f0_0 := X0.cell 0
    have f0_1 := X0.cell 1
    have f0_2 := X0.cell 2
    simp only [List.getElem?_toArray, List.getElem?_cons_succ, List.getElem?_cons_zero] at f0_0 f0_1 f0_2
    have f1_0 := X1.cell 0
    have f1_1 := X1.cell 1
    have f1_2 := X1.cell 2
    simp only [List.getElem?_toArray, List.getElem?_cons_succ, List.getElem?_cons_zero] at f1_0 f1_1 f1_2
    go_wp2_with fail
    refine (HCE.out _ hB4).mono ?_
    rintro e W5 ⟨rfl, hb⟩
    clear f0_0 f0_1 f0_2 f1_0 f1_1 f1_2
    have hB5 : Below w.heap.size w W5 := hB4.trans (hb.mono hB4.size)
    have X0 := X0.ext hb
    have X1 := X1.ext hb
    clear hb hB4
    go_wp2_with fail
    refine (error_yes (ce) _ (HE.out.ext hB5)).mono ?_
    rintro e W6 ⟨rfl, hb⟩
    have hB6 : Below w.heap.size w W6 := hB5.trans (hb.mono hB5.size)
    have X0 := X0.ext hb
    have X1 := X1.ext hb
    clear hb hB5
    have f0_0 := X0.cell 0
    have f0_1 := X0.cell 1
    have f0_2 := X0.cell 2
    simp only [List.getElem?_toArray, List.getElem?_cons_succ, List.getElem?_cons_zero] at f0_0 f0_1 f0_2
    have f1_0 := X1.cell 0
    have f1_1 := X1.cell 1
    have f1_2 := X1.cell 2
    simp only [List.getElem?_toArray, List.getElem?_cons_succ, List.getElem?_cons_zero] at f1_0 f1_1 f1_2
    go_wp2_with fail
    refine (HCF.out _ hB6).mono ?_
    rintro e W7 ⟨rfl, hb⟩
    clear f0_0 f0_1 f0_2 f1_0 f1_1 f1_2
    have hB7 : Below w.heap.size w W7 := hB6.trans (hb.mono hB6.size)
    have X0 := X0.ext hb
    have X1 := X1.ext hb
    clear hb hB6
    go_wp2_with fail
    refine (error_yes (ce) _ (HE.out.ext hB7)).mono ?_
    rintro e W8 ⟨rfl, hb⟩
    have hB8 : Below w.heap.size w W8 := hB7.trans (hb.mono hB7.size)
    have X0 := X0.ext hb
    have X1 := X1.ext hb
    clear hb hB7
    go_wp2_with fail
    go_ret
    exact ⟨by simp, hB8⟩
  rw [hx0]
  have f0_0 := X1.cell 0
  have f0_1 := X1.cell 1
  have f0_2 := X1.cell 2
  simp only [List.getElem?_toArray, List.getElem?_cons_succ, List.getElem?_cons_zero] at f0_0 f0_1 f0_2
  go_wp2_with fail
  refine (rvfault_any v 0 _ _ (by omega) (HV.out.ext hB4)).mono ?_
  rintro e W5 ⟨rfl, hb⟩
  clear f0_0 f0_1 f0_2
  have hB5 : Below w.heap.size w W5 := hB4.trans (hb.mono hB4.size)
  have X0 := X0.ext hb
  have X1 := X1.ext hb
  clear hb hB4
  by_cases hv0 : VT.chk v 0 = 0
  case neg =>
    have hq : (VT.chk v 0 == 0) = false := by simpa using hv0
    have h6 : VT.chk v 0 ≠ 6 := by rcases ET.vchk_cases v 0 with h | h | h <;> omega
    have HEV : Hid (ET.evalR x v = (0, VT.chk v 0)) := by show _ = _; unfold ET.evalR; rw [if_neg (by simp [hx0]), if_pos hv0]
    have HFV : Hid (ET.failsR x v = (false, VT.chk v 0)) := by show _ = _; unfold ET.failsR; rw [HEV.out]; simp only; rw [if_neg h6, if_pos hv0]
    clear hv0 h6
    generalize VT.chk v 0 = ce at *
    have HCE : Hid (∀ W, Below w.heap.size w W → Calls Tryd.prog 20 #[.agg #[.int .i64 k0, .int .i64 n0, .slice a0 s0 c0], .agg #[.bool l3, .int .i64 n3, .slice a3 s3 c3]] W fun e w' => e = .returned (.tuple #[.int .i64 (0), errV (ce)]) ∧ Below W.heap.size W w') := fun W h => by have := eval_any x v _ _ W (HT.out.ext h) (HX.out.ext h) (HV.out.ext h); rw [HEV.out] at this; exact this
    have HCF : Hid (∀ W, Below w.heap.size w W → Calls Tryd.prog 21 #[.agg #[.int .i64 k0, .int .i64 n0, .slice a0 s0 c0], .agg #[.bool l3, .int .i64 n3, .slice a3 s3 c3]] W fun e w' => e = .returned (.tuple #[.bool (false), errV (ce)]) ∧ Below W.heap.size W w') := fun W h => by have := fails_any x v _ _ W (HT.out.ext h) (HX.out.ext h) (HV.out.ext h); rw [HFV.out] at this; exact this
    have f0_0 := X0.cell 0
    have f0_1 := X0.cell 1
    have f0_2 := X0.cell 2
    simp only [List.getElem?_toArray, List.getElem?_cons_succ, List.getElem?_cons_zero] at f0_0 f0_1 f0_2
    have f1_0 := X1.cell 0
    have f1_1 := X1.cell 1
    have f1_2 := X1.cell 2
    simp only [List.getElem?_toArray, List.getElem?_cons_succ, List.getElem?_cons_zero] at f1_0 f1_1 f1_2
    go_wp2_with fail
    refine (HCE.out _ hB5).mono ?_
    rintro e W6 ⟨rfl, hb⟩
    clear f0_0 f0_1 f0_2 f1_0 f1_1 f1_2
    have hB6 : Below w.heap.size w W6 := hB5.trans (hb.mono hB5.size)
    have X0 := X0.ext hb
    have X1 := X1.ext hb
    clear hb hB5
    go_wp2_with fail
    refine (error_yes (ce) _ (HE.out.ext hB6)).mono ?_
    rintro e W7 ⟨rfl, hb⟩
    have hB7 : Below w.heap.size w W7 := hB6.trans (hb.mono hB6.size)
    have X0 := X0.ext hb
    have X1 := X1.ext hb
    clear hb hB6
    have f0_0 := X0.cell 0
    have f0_1 := X0.cell 1
    have f0_2 := X0.cell 2
    simp only [List.getElem?_toArray, List.getElem?_cons_succ, List.getElem?_cons_zero] at f0_0 f0_1 f0_2
    have f1_0 := X1.cell 0
    have f1_1 := X1.cell 1
    have f1_2 := X1.cell 2
    simp only [List.getElem?_toArray, List.getElem?_cons_succ, List.getElem?_cons_zero] at f1_0 f1_1 f1_2
    go_wp2_with fail
    refine (HCF.out _ hB7).mono ?_
    rintro e W8 ⟨rfl, hb⟩
    clear f0_0 f0_1 f0_2 f1_0 f1_1 f1_2
    have hB8 : Below w.heap.size w W8 := hB7.trans (hb.mono hB7.size)
    have X0 := X0.ext hb
    have X1 := X1.ext hb
    clear hb hB7
    go_wp2_with fail
    refine (error_yes (ce) _ (HE.out.ext hB8)).mono ?_
    rintro e W9 ⟨rfl, hb⟩
    have hB9 : Below w.heap.size w W9 := hB8.trans (hb.mono hB8.size)
    have X0 := X0.ext hb
    have X1 := X1.ext hb
    clear hb hB8
    go_wp2_with fail
    go_ret
    exact ⟨by simp, hB9⟩
  rw [hv0]
  have HXO := Lib.hid (ET.check_each hx0)
  have HVO := Lib.hid hv0
  have HEV0 : Hid (ET.evalR x v = match ET.told x v with | none => (0, 6) | some n => (n, 0)) := by show _ = _; unfold ET.evalR; rw [if_neg (by simp [hx0]), if_neg (by simp [hv0])]; cases ET.told x v <;> rfl
  have HCT : Hid (∀ W, Below w.heap.size w W → Calls Tryd.prog 18 #[.agg #[.int .i64 k0, .int .i64 n0, .slice a0 s0 c0], .agg #[.bool l3, .int .i64 n3, .slice a3 s3 c3]] W (TldR (ET.told x v) W)) := fun W h => rtold_any x v _ _ W HXO.out HVO.out HLV.out (HX.out.ext h) (HV.out.ext h)
  have HCB : Hid (∀ W, Below w.heap.size w W → Calls Tryd.prog 19 #[.agg #[.int .i64 k0, .int .i64 n0, .slice a0 s0 c0], .agg #[.bool l3, .int .i64 n3, .slice a3 s3 c3]] W fun e w' => e = .returned (.bool (match ET.told x v with | none => true | some n => n == 0)) ∧ Below W.heap.size W w') := fun W h => rbad_any x v _ _ W HXO.out HVO.out HLV.out (HX.out.ext h) (HV.out.ext h)
  clear hx0 hv0
  generalize hTO : ET.told x v = tw at *
  have HTO := Lib.hid hTO
  clear hTO
  cases tw with
  | none =>
    have HEV : Hid (ET.evalR x v = (0, 6)) := HEV0.out
    have HFV : Hid (ET.failsR x v = (true, 0)) := by show _ = _; unfold ET.failsR; rw [HEV.out]; rfl
    dsimp only at HCB
    have f0_0 := X0.cell 0
    have f0_1 := X0.cell 1
    have f0_2 := X0.cell 2
    simp only [List.getElem?_toArray, List.getElem?_cons_succ, List.getElem?_cons_zero] at f0_0 f0_1 f0_2
    have f1_0 := X1.cell 0
    have f1_1 := X1.cell 1
    have f1_2 := X1.cell 2
    simp only [List.getElem?_toArray, List.getElem?_cons_succ, List.getElem?_cons_zero] at f1_0 f1_1 f1_2
    go_wp2_with fail
    refine (HCT.out _ hB5).mono ?_
    rintro e W6 ⟨rfl, hb⟩
    clear f0_0 f0_1 f0_2 f1_0 f1_1 f1_2
    have hB6 : Below w.heap.size w W6 := hB5.trans (hb.mono hB5.size)
    have X0 := X0.ext hb
    have X1 := X1.ext hb
    clear hb hB5
    dsimp only [Option.getD_none, Option.isSome_none]
    have f0_0 := X0.cell 0
    have f0_1 := X0.cell 1
    have f0_2 := X0.cell 2
    simp only [List.getElem?_toArray, List.getElem?_cons_succ, List.getElem?_cons_zero] at f0_0 f0_1 f0_2
    have f1_0 := X1.cell 0
    have f1_1 := X1.cell 1
    have f1_2 := X1.cell 2
    simp only [List.getElem?_toArray, List.getElem?_cons_succ, List.getElem?_cons_zero] at f1_0 f1_1 f1_2
    go_wp2_with fail
    refine (HCB.out _ hB6).mono ?_
    rintro e W7 ⟨rfl, hb⟩
    clear f0_0 f0_1 f0_2 f1_0 f1_1 f1_2
    have hB7 : Below w.heap.size w W7 := hB6.trans (hb.mono hB6.size)
    have X0 := X0.ext hb
    have X1 := X1.ext hb
    clear hb hB6
    have HCE : Hid (∀ W, Below w.heap.size w W → Calls Tryd.prog 20 #[.agg #[.int .i64 k0, .int .i64 n0, .slice a0 s0 c0], .agg #[.bool l3, .int .i64 n3, .slice a3 s3 c3]] W fun e w' => e = .returned (.tuple #[.int .i64 (0), errV (6)]) ∧ Below W.heap.size W w') := fun W h => by have := eval_any x v _ _ W (HT.out.ext h) (HX.out.ext h) (HV.out.ext h); rw [HEV.out] at this; exact this
    have HCF : Hid (∀ W, Below w.heap.size w W → Calls Tryd.prog 21 #[.agg #[.int .i64 k0, .int .i64 n0, .slice a0 s0 c0], .agg #[.bool l3, .int .i64 n3, .slice a3 s3 c3]] W fun e w' => e = .returned (.tuple #[.bool (true), errV (0)]) ∧ Below W.heap.size W w') := fun W h => by have := fails_any x v _ _ W (HT.out.ext h) (HX.out.ext h) (HV.out.ext h); rw [HFV.out] at this; exact this
    have f0_0 := X0.cell 0
    have f0_1 := X0.cell 1
    have f0_2 := X0.cell 2
    simp only [List.getElem?_toArray, List.getElem?_cons_succ, List.getElem?_cons_zero] at f0_0 f0_1 f0_2
    have f1_0 := X1.cell 0
    have f1_1 := X1.cell 1
    have f1_2 := X1.cell 2
    simp only [List.getElem?_toArray, List.getElem?_cons_succ, List.getElem?_cons_zero] at f1_0 f1_1 f1_2
    go_wp2_with fail
    refine (HCE.out _ hB7).mono ?_
    rintro e W8 ⟨rfl, hb⟩
    clear f0_0 f0_1 f0_2 f1_0 f1_1 f1_2
    have hB8 : Below w.heap.size w W8 := hB7.trans (hb.mono hB7.size)
    have X0 := X0.ext hb
    have X1 := X1.ext hb
    clear hb hB7
    go_wp2_with fail
    refine (error_yes (6) _ (HE.out.ext hB8)).mono ?_
    rintro e W9 ⟨rfl, hb⟩
    have hB9 : Below w.heap.size w W9 := hB8.trans (hb.mono hB8.size)
    have X0 := X0.ext hb
    have X1 := X1.ext hb
    clear hb hB8
    have f0_0 := X0.cell 0
    have f0_1 := X0.cell 1
    have f0_2 := X0.cell 2
    simp only [List.getElem?_toArray, List.getElem?_cons_succ, List.getElem?_cons_zero] at f0_0 f0_1 f0_2
    have f1_0 := X1.cell 0
    have f1_1 := X1.cell 1
    have f1_2 := X1.cell 2
    simp only [List.getElem?_toArray, List.getElem?_cons_succ, List.getElem?_cons_zero] at f1_0 f1_1 f1_2
    go_wp2_with fail
    refine (HCF.out _ hB9).mono ?_
    rintro e W10 ⟨rfl, hb⟩
    clear f0_0 f0_1 f0_2 f1_0 f1_1 f1_2
    have hB10 : Below w.heap.size w W10 := hB9.trans (hb.mono hB9.size)
    have X0 := X0.ext hb
    have X1 := X1.ext hb
    clear hb hB9
    go_wp2_with fail
    refine (error_yes (0) _ (HE.out.ext hB10)).mono ?_
    rintro e W11 ⟨rfl, hb⟩
    have hB11 : Below w.heap.size w W11 := hB10.trans (hb.mono hB10.size)
    have X0 := X0.ext hb
    have X1 := X1.ext hb
    clear hb hB10
    go_wp2_with fail
    go_ret
    exact ⟨by simp, hB11⟩
  | some m =>
    have HEV : Hid (ET.evalR x v = (m, 0)) := HEV0.out
    have HFV : Hid (ET.failsR x v = (m == 0, 0)) := by show _ = _; unfold ET.failsR; rw [HEV.out]; rfl
    dsimp only at HCB
    have f0_0 := X0.cell 0
    have f0_1 := X0.cell 1
    have f0_2 := X0.cell 2
    simp only [List.getElem?_toArray, List.getElem?_cons_succ, List.getElem?_cons_zero] at f0_0 f0_1 f0_2
    have f1_0 := X1.cell 0
    have f1_1 := X1.cell 1
    have f1_2 := X1.cell 2
    simp only [List.getElem?_toArray, List.getElem?_cons_succ, List.getElem?_cons_zero] at f1_0 f1_1 f1_2
    go_wp2_with fail
    refine (HCT.out _ hB5).mono ?_
    rintro e W6 ⟨rfl, hb⟩
    clear f0_0 f0_1 f0_2 f1_0 f1_1 f1_2
    have hB6 : Below w.heap.size w W6 := hB5.trans (hb.mono hB5.size)
    have X0 := X0.ext hb
    have X1 := X1.ext hb
    clear hb hB5
    dsimp only [Option.getD_some, Option.isSome_some]
    have f0_0 := X0.cell 0
    have f0_1 := X0.cell 1
    have f0_2 := X0.cell 2
    simp only [List.getElem?_toArray, List.getElem?_cons_succ, List.getElem?_cons_zero] at f0_0 f0_1 f0_2
    have f1_0 := X1.cell 0
    have f1_1 := X1.cell 1
    have f1_2 := X1.cell 2
    simp only [List.getElem?_toArray, List.getElem?_cons_succ, List.getElem?_cons_zero] at f1_0 f1_1 f1_2
    go_wp2_with fail
    refine (HCB.out _ hB6).mono ?_
    rintro e W7 ⟨rfl, hb⟩
    clear f0_0 f0_1 f0_2 f1_0 f1_1 f1_2
    have hB7 : Below w.heap.size w W7 := hB6.trans (hb.mono hB6.size)
    have X0 := X0.ext hb
    have X1 := X1.ext hb
    clear hb hB6
    generalize (m == 0) = mz at *
    have HCE : Hid (∀ W, Below w.heap.size w W → Calls Tryd.prog 20 #[.agg #[.int .i64 k0, .int .i64 n0, .slice a0 s0 c0], .agg #[.bool l3, .int .i64 n3, .slice a3 s3 c3]] W fun e w' => e = .returned (.tuple #[.int .i64 (m), errV (0)]) ∧ Below W.heap.size W w') := fun W h => by have := eval_any x v _ _ W (HT.out.ext h) (HX.out.ext h) (HV.out.ext h); rw [HEV.out] at this; exact this
    have HCF : Hid (∀ W, Below w.heap.size w W → Calls Tryd.prog 21 #[.agg #[.int .i64 k0, .int .i64 n0, .slice a0 s0 c0], .agg #[.bool l3, .int .i64 n3, .slice a3 s3 c3]] W fun e w' => e = .returned (.tuple #[.bool (mz), errV (0)]) ∧ Below W.heap.size W w') := fun W h => by have := fails_any x v _ _ W (HT.out.ext h) (HX.out.ext h) (HV.out.ext h); rw [HFV.out] at this; exact this
    have f0_0 := X0.cell 0
    have f0_1 := X0.cell 1
    have f0_2 := X0.cell 2
    simp only [List.getElem?_toArray, List.getElem?_cons_succ, List.getElem?_cons_zero] at f0_0 f0_1 f0_2
    have f1_0 := X1.cell 0
    have f1_1 := X1.cell 1
    have f1_2 := X1.cell 2
    simp only [List.getElem?_toArray, List.getElem?_cons_succ, List.getElem?_cons_zero] at f1_0 f1_1 f1_2
    go_wp2_with fail
    refine (HCE.out _ hB7).mono ?_
    rintro e W8 ⟨rfl, hb⟩
    clear f0_0 f0_1 f0_2 f1_0 f1_1 f1_2
    have hB8 : Below w.heap.size w W8 := hB7.trans (hb.mono hB7.size)
    have X0 := X0.ext hb
    have X1 := X1.ext hb
    clear hb hB7
    go_wp2_with fail
    refine (error_yes (0) _ (HE.out.ext hB8)).mono ?_
    rintro e W9 ⟨rfl, hb⟩
    have hB9 : Below w.heap.size w W9 := hB8.trans (hb.mono hB8.size)
    have X0 := X0.ext hb
    have X1 := X1.ext hb
    clear hb hB8
    have f0_0 := X0.cell 0
    have f0_1 := X0.cell 1
    have f0_2 := X0.cell 2
    simp only [List.getElem?_toArray, List.getElem?_cons_succ, List.getElem?_cons_zero] at f0_0 f0_1 f0_2
    have f1_0 := X1.cell 0
    have f1_1 := X1.cell 1
    have f1_2 := X1.cell 2
    simp only [List.getElem?_toArray, List.getElem?_cons_succ, List.getElem?_cons_zero] at f1_0 f1_1 f1_2
    go_wp2_with fail
    refine (HCF.out _ hB9).mono ?_
    rintro e W10 ⟨rfl, hb⟩
    clear f0_0 f0_1 f0_2 f1_0 f1_1 f1_2
    have hB10 : Below w.heap.size w W10 := hB9.trans (hb.mono hB9.size)
    have X0 := X0.ext hb
    have X1 := X1.ext hb
    clear hb hB9
    go_wp2_with fail
    refine (error_yes (0) _ (HE.out.ext hB10)).mono ?_
    rintro e W11 ⟨rfl, hb⟩
    have hB11 : Below w.heap.size w W11 := hB10.trans (hb.mono hB10.size)
    have X0 := X0.ext hb
    have X1 := X1.ext hb
    clear hb hB10
    go_wp2_with fail
    go_ret
    exact ⟨by simp, hB11⟩
theorem exprTells_walk (w : World) (hT : TakesAt w) (hE : ErrTypeAt w) {xv vv : Value} {n m : Nat} (x : ET) (hx : ExprAt w xv x) (_ : True) (v : VT) (hv : ValAt w vv v) (hb : VT.wt v ≤ m) (hs : n + (m + 0) ≤ 1048576) :
    Calls Tryd.prog 3 #[xv, vv] w fun e w' => e = .returned (.bool true) ∧ Below w.heap.size w w' :=
  exprTells_go w hT hE x hx v hv (by have := VT.leaves_wt v; omega)
end Go.Proofs.YtbmdjchlbhlgmaaDoor
