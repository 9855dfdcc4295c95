/- The walks through expr.Fails, and what the statements on expressions build. -/
import Derived.Test.YtcecpggkeaohnaaDoorEX6
import Derived.Lib.IfaceEq
import Derived.Lib.IfaceNeq
namespace Go.Proofs.YtcecpggkeaohnaaDoor
set_option maxRecDepth 100000
open Go.RowKit
set_option linter.unusedSimpArgs false
set_option linter.unusedVariables false
theorem errno_comp : (Tryd.prog.info? 63).map (·.comparable) = some true := by kernel_rfl
theorem eq_errno (a b : Int) (w : World) : (binOp .eql 30 (.iface 63 (.int .i64 a)) (.iface 63 (.int .i64 b))).run Tryd.prog w = .ok (.bool (a == b)) w :=
  Go.Lib.run_eql_iface_int w a b Tryd.underlying30 errno_comp Tryd.underlying63
theorem neq_errno (a b : Int) (w : World) : (binOp .neq 30 (.iface 63 (.int .i64 a)) (.iface 63 (.int .i64 b))).run Tryd.prog w = .ok (.bool (!(a == b))) w :=
  Go.Lib.run_neq_iface_int w a b Tryd.underlying30 errno_comp Tryd.underlying63
set_option maxHeartbeats 1000000 in
theorem fails_any (x : ET) (t : VT) (xv vv : Value) (w : World) (hT : TakesAt w) (hx : ExprAt w xv x) (hv : ValAt w vv t) :
    Calls Tryd.prog 17 #[xv, vv] w fun e w' => e = .returned (.tuple #[.bool (ET.failsR x t).1, errV (ET.failsR x t).2]) ∧ Below w.heap.size w w' := by
  have C1 := Lib.hid (fun W (hb : Below w.heap.size w W) => eval_any x t xv vv W (hT.ext hb) (hx.ext hb) (hv.ext hb))
  have HR : Hid (ET.failsR x t = if (ET.evalR x t).2 = 6 then (true, 0) else if (ET.evalR x t).2 ≠ 0 then (false, (ET.evalR x t).2) else ((ET.evalR x t).1 == 0, 0)) := rfl
  obtain ⟨xk, xn, xs, xad, xcap, rfl⟩ := hx.shape
  obtain ⟨vl, vn, vk, vad, vcap, rfl⟩ := hv.shape
  generalize ET.failsR x t = R at *
  generalize ET.evalR x t = E at *
  obtain ⟨E1, E2⟩ := E
  clear hx hv hT
  dsimp only at C1 HR
  have hq := eq_errno
  have hn := fun (w : World) => run_eql_iface_nil_left (P := Tryd.prog) w 63 (.int .i64 6) Tryd.underlying30
  go_enter Tryd.func17, Tryd.ntmps17
  go_wp2_with fail
  refine (C1.out _ (by repeat (first | with_reducible assumption | with_reducible exact Below.refl _ _ | with_reducible apply Below.drew | (with_reducible refine Below.alloc ?_ (by first | omega | (simp only [World.size_alloc, size_setCell, size_drew, size_drewN]; omega) | (dsimp only; omega) | (simp only [World.size_alloc, size_setCell, size_drew, size_drewN]; dsimp only; omega)) _) | (with_reducible refine Below.setCell ?_ (by first | omega | (simp only [World.size_alloc, size_setCell, size_drew, size_drewN]; omega) | (dsimp only; omega) | (simp only [World.size_alloc, size_setCell, size_drew, size_drewN]; dsimp only; omega)) _) | (with_reducible apply below_drewN)))).mono ?_
  rintro e w1 ⟨rfl, hb1⟩
  have hB1 : Below w.heap.size w w1 := Below.trans (by repeat (first | with_reducible assumption | with_reducible exact Below.refl _ _ | with_reducible apply Below.drew | (with_reducible refine Below.alloc ?_ (by first | omega | (simp only [World.size_alloc, size_setCell, size_drew, size_drewN]; omega) | (dsimp only; omega) | (simp only [World.size_alloc, size_setCell, size_drew, size_drewN]; dsimp only; omega)) _) | (with_reducible refine Below.setCell ?_ (by first | omega | (simp only [World.size_alloc, size_setCell, size_drew, size_drewN]; omega) | (dsimp only; omega) | (simp only [World.size_alloc, size_setCell, size_drew, size_drewN]; dsimp only; omega)) _) | (with_reducible apply below_drewN))) (hb1.mono (by first | omega | (simp only [World.size_alloc, size_setCell, size_drew, size_drewN]; omega) | (dsimp only; omega) | (simp only [World.size_alloc, size_setCell, size_drew, size_drewN]; dsimp only; omega)))
  clear hb1
  by_cases h0 : E2 = 0
  · subst h0
    have HX : Hid (R = (E1 == 0, 0)) := HR.out.trans (by simp)
    rw [errV_zero]
    clear HR
    go_wp2_with fail
    go_ret2
    rw [HX.out]
    exact ⟨rfl, hB1⟩
  · by_cases h6 : E2 = 6
    · subst h6
      have HX : Hid (R = (true, 0)) := HR.out.trans (by simp)
      rw [errV_ne h0]
      clear HR h0
      go_wp2_with fail
      go_ret2
      rw [HX.out]
      exact ⟨rfl, hB1⟩
    · have HX : Hid (R = (false, E2)) := HR.out.trans (by rw [if_neg h6, if_pos h0])
      have q1 : (E2 == 6) = false := by simpa using h6
      rw [errV_ne h0]
      have H0 := Lib.hid h0
      clear HR h0 h6
      go_wp2_with fail
      go_ret2
      rw [HX.out]
      exact ⟨by rw [errV_ne H0.out]; rfl, hB1⟩
set_option maxHeartbeats 1000000 in
theorem both_any (k : Int) (x y : ET) (xv yv : Value) (w : World) (hk : In64 k) (hx : ExprAt w xv x) (hy : ExprAt w yv y) :
    Calls Tryd.prog 15 #[.int .i64 k, xv, yv] w fun e w' => (∃ v, e = .returned v ∧ ExprAt w' v (.mk k 0 [x, y])) ∧ Below w.heap.size w w' := by
  obtain ⟨xk, xn, xs, xad, xcap, rfl⟩ := hx.shape
  obtain ⟨yk, yn, ys, yad, ycap, rfl⟩ := hy.shape
  have HX := Lib.hid hx
  have HY := Lib.hid hy
  have HK := Lib.hid hk
  clear hx hy hk
  go_enter Tryd.func15, Tryd.ntmps15
  go_wp2_with fail
  have hB : Below w.heap.size w ((((w.alloc (.cells #[.int .i64 xk, .int .i64 xn, .slice xad xs xcap] 24)).alloc (.cells #[.int .i64 yk, .int .i64 yn, .slice yad ys ycap] 24)).alloc (.cells #[.int .i64 k, .int .i64 0, .slice (some ⟨w.heap.size + 1 + 1 + 1, 0, none⟩) 2 2] 24)).alloc (.cells #[.int .i64 xk, .int .i64 xn, .slice xad xs xcap, .int .i64 yk, .int .i64 yn, .slice yad ys ycap] 24)) := by repeat (first | with_reducible assumption | with_reducible exact Below.refl _ _ | with_reducible apply Below.drew | (with_reducible refine Below.alloc ?_ (by first | omega | (simp only [World.size_alloc, size_setCell, size_drew, size_drewN]; omega) | (dsimp only; omega) | (simp only [World.size_alloc, size_setCell, size_drew, size_drewN]; dsimp only; omega)) _) | (with_reducible refine Below.setCell ?_ (by first | omega | (simp only [World.size_alloc, size_setCell, size_drew, size_drewN]; omega) | (dsimp only; omega) | (simp only [World.size_alloc, size_setCell, size_drew, size_drewN]; dsimp only; omega)) _) | (with_reducible apply below_drewN))
  have hb := Blk.new (((w.alloc (.cells #[.int .i64 xk, .int .i64 xn, .slice xad xs xcap] 24)).alloc (.cells #[.int .i64 yk, .int .i64 yn, .slice yad ys ycap] 24)).alloc (.cells #[.int .i64 k, .int .i64 0, .slice (some ⟨w.heap.size + 1 + 1 + 1, 0, none⟩) 2 2] 24)) #[.int .i64 xk, .int .i64 xn, .slice xad xs xcap, .int .i64 yk, .int .i64 yn, .slice yad ys ycap] 24
  simp only [World.size_alloc] at hb
  refine bodyPost_ret (v := .agg #[.int .i64 k, .int .i64 0, .slice (some ⟨w.heap.size + 1 + 1 + 1, 0, none⟩) 2 2]) (by simp [results, Tryd.results15, go_sem]) rfl ?_
  exact ⟨⟨_, rfl, ExprAt.make (s := [x, y]) HK.out ⟨by omega, by omega⟩ (by simp) (by simp) (exprs_two hb (HX.out.ext hB) (HY.out.ext hB))⟩, hB⟩
set_option maxHeartbeats 1000000 in
theorem not_any (x : ET) (xv : Value) (w : World) (hx : ExprAt w xv x) :
    Calls Tryd.prog 16 #[xv] w fun e w' => (∃ v, e = .returned v ∧ ExprAt w' v (.mk 9 0 [x])) ∧ Below w.heap.size w w' := by
  obtain ⟨xk, xn, xs, xad, xcap, rfl⟩ := hx.shape
  have HX := Lib.hid hx
  clear hx
  go_enter Tryd.func16, Tryd.ntmps16
  go_wp2_with fail
  have hB : Below w.heap.size w (((w.alloc (.cells #[.int .i64 xk, .int .i64 xn, .slice xad xs xcap] 24)).alloc (.cells #[.int .i64 9, .int .i64 0, .slice (some ⟨w.heap.size + 1 + 1, 0, none⟩) 1 1] 24)).alloc (.cells #[.int .i64 xk, .int .i64 xn, .slice xad xs xcap] 24)) := by repeat (first | with_reducible assumption | with_reducible exact Below.refl _ _ | with_reducible apply Below.drew | (with_reducible refine Below.alloc ?_ (by first | omega | (simp only [World.size_alloc, size_setCell, size_drew, size_drewN]; omega) | (dsimp only; omega) | (simp only [World.size_alloc, size_setCell, size_drew, size_drewN]; dsimp only; omega)) _) | (with_reducible refine Below.setCell ?_ (by first | omega | (simp only [World.size_alloc, size_setCell, size_drew, size_drewN]; omega) | (dsimp only; omega) | (simp only [World.size_alloc, size_setCell, size_drew, size_drewN]; dsimp only; omega)) _) | (with_reducible apply below_drewN))
  have hb := Blk.new ((w.alloc (.cells #[.int .i64 xk, .int .i64 xn, .slice xad xs xcap] 24)).alloc (.cells #[.int .i64 9, .int .i64 0, .slice (some ⟨w.heap.size + 1 + 1, 0, none⟩) 1 1] 24)) #[.int .i64 xk, .int .i64 xn, .slice xad xs xcap] 24
  simp only [World.size_alloc] at hb
  refine bodyPost_ret (v := .agg #[.int .i64 9, .int .i64 0, .slice (some ⟨w.heap.size + 1 + 1, 0, none⟩) 1 1]) (by simp [results, Tryd.results16, go_sem]) rfl ?_
  exact ⟨⟨_, rfl, ExprAt.make (s := [x]) ⟨by omega, by omega⟩ ⟨by omega, by omega⟩ (by simp) (by simp) (exprs_one hb (HX.out.ext hB))⟩, hB⟩
set_option maxHeartbeats 1000000 in
theorem asked_fact (w : World) (hT : TakesAt w) : Calls Tryd.prog 13 #[] w fun e w' => e = .returned (.bool true) ∧ Below w.heap.size w w' := by
  have C1 := Lib.hid (fun W xv vv (hb : Below w.heap.size w W) hx hv => eval_any (.mk 5 0 [.mk 2 0 [], .mk 1 2 []]) (.mk false 3 []) xv vv W (hT.ext hb) hx hv)
  have hR : ET.evalR (.mk 5 0 [.mk 2 0 [], .mk 1 2 []]) (.mk false 3 []) = (5, 0) := by decide +kernel
  rw [hR] at C1
  clear hT hR
  go_enter Tryd.func13, Tryd.ntmps13
  go_wp2_with fail
  have hB : Below w.heap.size w (w.alloc (.cells #[.int .i64 2, .int .i64 0, .slice none 0 0, .int .i64 1, .int .i64 2, .slice none 0 0] 24)) := by repeat (first | with_reducible assumption | with_reducible exact Below.refl _ _ | with_reducible apply Below.drew | (with_reducible refine Below.alloc ?_ (by first | omega | (simp only [World.size_alloc, size_setCell, size_drew, size_drewN]; omega) | (dsimp only; omega) | (simp only [World.size_alloc, size_setCell, size_drew, size_drewN]; dsimp only; omega)) _) | (with_reducible refine Below.setCell ?_ (by first | omega | (simp only [World.size_alloc, size_setCell, size_drew, size_drewN]; omega) | (dsimp only; omega) | (simp only [World.size_alloc, size_setCell, size_drew, size_drewN]; dsimp only; omega)) _) | (with_reducible apply below_drewN))
  have hb := Blk.new w #[.int .i64 2, .int .i64 0, .slice none 0 0, .int .i64 1, .int .i64 2, .slice none 0 0] 24
  refine (C1.out _ _ _ hB (ExprAt.make (s := [_, _]) ⟨by omega, by omega⟩ ⟨by omega, by omega⟩ (by simp) (by simp) (exprs_two hb (ExprAt.leaf _ _ ⟨by omega, by omega⟩ ⟨by omega, by omega⟩) (ExprAt.leaf _ _ ⟨by omega, by omega⟩ ⟨by omega, by omega⟩))) (ValIn.leaf _ _ ⟨by omega, by omega⟩)).mono ?_
  rintro e w1 ⟨rfl, hb1⟩
  have hB1 := hB.trans (hb1.mono hB.size)
  rw [errV_zero]
  clear hb hb1 hB
  go_wp2_with fail
  go_ret
  exact ⟨rfl, hB1⟩
end Go.Proofs.YtcecpggkeaohnaaDoor
