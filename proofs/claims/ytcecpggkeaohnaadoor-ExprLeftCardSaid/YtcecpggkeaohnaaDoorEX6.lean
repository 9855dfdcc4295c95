/- The walks through expr.Eval, and what recovers. -/
import Derived.Test.YtcecpggkeaohnaaDoorEX5
import Derived.Test.YtcecpggkeaohnaaDoorPlay2
namespace Go.Proofs.YtcecpggkeaohnaaDoor
set_option maxRecDepth 100000
open Go.RowKit
set_option linter.unusedSimpArgs false
set_option linter.unusedVariables false
theorem evcatch_idle (p q : Addr) (w : World) :
    CallsD Tryd.prog 35 #[.pointer (some p), .pointer (some q)] .returning w fun e u' w' => e = .returned (.tuple #[]) ∧ u' = .returning ∧ w' = w := by
  refine callsD_of_wpS Tryd.func35 rfl fun c₀ cs hu => ?_
  simp only [Tryd.ntmps35, List.size_toArray, List.length_cons, List.length_nil, Nat.reduceAdd, Nat.reduceSub, Array.replicate_succ, Array.replicate_zero, List.push_toArray, List.append_toArray, List.nil_append, List.cons_append]
  apply wpS_seq
  apply wpS_region
  simp [wpOpsS, go_sem, recoverD, hu, Exit.thenS]
  refine wpS_of_wp ?_
  go_wp2_with fail
  cases c₀
  simp_all [bodyPostS, results, Tryd.results35]
set_option maxHeartbeats 1000000 in
theorem evcatch_panicking (p q : Nat) (x : Int) (o0 ov : Value) (older : List PanicEntry) (w : World) (hp : Blk w p #[o0] 3) (hq : Blk w q #[ov] 30) (hne : p ≠ q) :
    CallsD Tryd.prog 35 #[.pointer (some ⟨p, 0, none⟩), .pointer (some ⟨q, 0, none⟩)] (.panicking ({ v := .iface 63 (.int .i64 x), recovered := false } :: older)) w fun e u' w' =>
      e = .returned (.tuple #[]) ∧ u' = .panicking ({ v := .iface 63 (.int .i64 x), recovered := true } :: older) ∧
      w' = (w.setCell ⟨p, 0, none⟩ (.int .i64 0)).setCell ⟨q, 0, none⟩ (.iface 63 (.int .i64 x)) := by
  have d0 := hp.cell 0
  have u0 := hp.unfrozen 0
  have d3 := hq.cell 0
  have u3 := hq.unfrozen 0
  simp only [List.getElem?_toArray, List.getElem?_cons_succ, List.getElem?_cons_zero] at d0 d3
  refine callsD_of_wpS Tryd.func35 rfl fun c₀ cs hu => ?_
  simp only [Tryd.ntmps35, List.size_toArray, List.length_cons, List.length_nil, Nat.reduceAdd, Nat.reduceSub, Array.replicate_succ, Array.replicate_zero, List.push_toArray, List.append_toArray, List.nil_append, List.cons_append]
  apply wpS_seq
  apply wpS_region
  simp [wpOpsS, go_sem, recoverD, hu, Exit.thenS]
  refine wpS_of_wp ?_
  have hta : ∀ (n : Int) (w : World), Sem.run Tryd.prog (Instr.typeAssert (.iface 63 (.int .i64 n)) 20 63 true) w = .ok (.tuple #[.int .i64 n, .bool true]) w := fun n w => by rfl
  go_wp2_with fail

  cases c₀
  simp_all [bodyPostS, results, Tryd.results35]
set_option maxHeartbeats 4000000 in
theorem eval_any (x : ET) (t : VT) (xv vv : Value) (w : World) (hT : TakesAt w) (hx : ExprAt w xv x) (hv : ValAt w vv t) :
    Calls Tryd.prog 14 #[xv, vv] w fun e w' => e = .returned (.tuple #[.int .i64 (ET.evalR x t).1, errV (ET.evalR x t).2]) ∧ Below w.heap.size w w' := by
  have C1 := Lib.hid (fun W (hb : Below w.heap.size w W) => xcheck_any x xv W (hT.ext hb) (hx.ext hb))
  have C2 := Lib.hid (fun W (hb : Below w.heap.size w W) => valCheck_any t vv W (hv.ext hb))
  have C3 := Lib.hid (fun W (h : ET.check x = 0) (hb : Below w.heap.size w W) => told_any x t xv vv W (ET.check_each h) (hx.ext hb) (hv.ext hb))
  have HR : Hid (ET.evalR x t = if ET.check x ≠ 0 then (0, ET.check x) else if VT.chk t 0 ≠ 0 then (0, VT.chk t 0) else match ET.told x t with
    | none => (0, 6)
    | some n => (n, 0)) := rfl
  obtain ⟨xk, xn, xs, xad, xcap, rfl⟩ := hx.shape
  obtain ⟨vl, vn, vk, vad, vcap, rfl⟩ := hv.shape
  generalize ET.evalR x t = R at *
  generalize ET.check x = c1 at *
  generalize VT.chk t 0 = c2 at *
  generalize ET.told x t = r at *
  clear hx hv hT
  go_enter_defers Tryd.func14, Tryd.ntmps14
  go_wp2_with fail
  refine (C1.out _ (by repeat (first | with_reducible assumption | with_reducible exact Below.refl _ _ | with_reducible apply Below.drew | (with_reducible refine Below.alloc ?_ (by first | omega | (simp only [World.size_alloc, size_setCell, size_drew, size_drewN]; omega) | (dsimp only; omega) | (simp only [World.size_alloc, size_setCell, size_drew, size_drewN]; dsimp only; omega)) _) | (with_reducible refine Below.setCell ?_ (by first | omega | (simp only [World.size_alloc, size_setCell, size_drew, size_drewN]; omega) | (dsimp only; omega) | (simp only [World.size_alloc, size_setCell, size_drew, size_drewN]; dsimp only; omega)) _) | (with_reducible apply below_drewN)))).mono ?_
  rintro e w1 ⟨rfl, hb1⟩
  have hB1 : Below w.heap.size w w1 := Below.trans (by repeat (first | with_reducible assumption | with_reducible exact Below.refl _ _ | with_reducible apply Below.drew | (with_reducible refine Below.alloc ?_ (by first | omega | (simp only [World.size_alloc, size_setCell, size_drew, size_drewN]; omega) | (dsimp only; omega) | (simp only [World.size_alloc, size_setCell, size_drew, size_drewN]; dsimp only; omega)) _) | (with_reducible refine Below.setCell ?_ (by first | omega | (simp only [World.size_alloc, size_setCell, size_drew, size_drewN]; omega) | (dsimp only; omega) | (simp only [World.size_alloc, size_setCell, size_drew, size_drewN]; dsimp only; omega)) _) | (with_reducible apply below_drewN))) (hb1.mono (by first | omega | (simp only [World.size_alloc, size_setCell, size_drew, size_drewN]; omega) | (dsimp only; omega) | (simp only [World.size_alloc, size_setCell, size_drew, size_drewN]; dsimp only; omega)))
  have x2 := (((Blk.new (w.alloc (.cells #[.int .i64 xk, .int .i64 xn, .slice xad xs xcap] 24)) #[.bool vl, .int .i64 vn, .slice vad vk vcap] 27).alloc (.cells #[.int .i64 0] 3)).alloc (.cells #[.nilIface] 30)).ext hb1
  have x1 := ((((Blk.new w #[.int .i64 xk, .int .i64 xn, .slice xad xs xcap] 24).alloc (.cells #[.bool vl, .int .i64 vn, .slice vad vk vcap] 27)).alloc (.cells #[.int .i64 0] 3)).alloc (.cells #[.nilIface] 30)).ext hb1
  have x4 := ((Blk.new ((w.alloc (.cells #[.int .i64 xk, .int .i64 xn, .slice xad xs xcap] 24)).alloc (.cells #[.bool vl, .int .i64 vn, .slice vad vk vcap] 27)) #[.int .i64 0] 3).alloc (.cells #[.nilIface] 30)).ext hb1
  have x5 := (Blk.new (((w.alloc (.cells #[.int .i64 xk, .int .i64 xn, .slice xad xs xcap] 24)).alloc (.cells #[.bool vl, .int .i64 vn, .slice vad vk vcap] 27)).alloc (.cells #[.int .i64 0] 3)) #[.nilIface] 30).ext hb1
  simp only [World.size_alloc] at x1 x2 x4 x5
  have hz1 := hB1.size
  clear hb1
  have n0 := x4.cell 0
  simp only [List.getElem?_toArray, List.getElem?_cons_succ, List.getElem?_cons_zero] at n0
  have q0 := x5.cell 0
  simp only [List.getElem?_toArray, List.getElem?_cons_succ, List.getElem?_cons_zero] at q0
  have u4 := x4.unfrozen 0
  have u5 := x5.unfrozen 0
  by_cases h1 : c1 = 0
  · subst h1
    rw [errV_zero]
    have f0 := x2.cell 0
    have f1 := x2.cell 1
    have f2 := x2.cell 2
    simp only [List.getElem?_toArray, List.getElem?_cons_succ, List.getElem?_cons_zero] at f0 f1 f2
    go_wp2_with fail
    refine (C2.out _ hB1).mono ?_
    rintro e w2 ⟨rfl, hb2⟩
    have hB2 := hB1.trans (hb2.mono hB1.size)
    clear f0 f1 f2 n0 q0 u4 u5
    have x1 := x1.ext hb2
    have x2 := x2.ext hb2
    have x4 := x4.ext hb2
    have x5 := x5.ext hb2
    have hz2 := hB2.size
    clear hb2
    have n0 := x4.cell 0
    simp only [List.getElem?_toArray, List.getElem?_cons_succ, List.getElem?_cons_zero] at n0
    have q0 := x5.cell 0
    simp only [List.getElem?_toArray, List.getElem?_cons_succ, List.getElem?_cons_zero] at q0
    have u4 := x4.unfrozen 0
    have u5 := x5.unfrozen 0
    by_cases h2 : c2 = 0
    · subst h2
      rw [errV_zero]
      have g0 := x1.cell 0
      have g1 := x1.cell 1
      have g2 := x1.cell 2
      simp only [List.getElem?_toArray, List.getElem?_cons_succ, List.getElem?_cons_zero] at g0 g1 g2
      have f0 := x2.cell 0
      have f1 := x2.cell 1
      have f2 := x2.cell 2
      simp only [List.getElem?_toArray, List.getElem?_cons_succ, List.getElem?_cons_zero] at f0 f1 f2
      go_wp2_with fail
      refine (C3.out _ trivial hB2).mono ?_
      rintro e w3 ht
      clear C1 C2 C3 g0 g1 g2 f0 f1 f2
      cases r with
      | none =>
        obtain ⟨rfl, hb3⟩ := ht
        have hB3 := hB2.trans (hb3.mono hB2.size)
        have y4 := x4.ext hb3
        have y5 := x5.ext hb3
        clear n0 q0 u4 u5 x1 x2 x4 x5 hb3
        refine leaves_cons (f := 35) (args := #[.pointer (some ⟨w.heap.size + 1 + 1, 0, none⟩), .pointer (some ⟨w.heap.size + 1 + 1 + 1, 0, none⟩)]) (by simp) (by simp [go_sem]) ?_
        refine (evcatch_panicking (w.heap.size + 1 + 1) (w.heap.size + 1 + 1 + 1) 6 _ _ [] _ y4 y5 (by omega)).mono ?_
        rintro e u' w'' ⟨rfl, rfl, rfl⟩
        have e4 := (y4.set 0 (.int .i64 0)).oth (w.heap.size + 1 + 1 + 1) 0 (by omega) (.iface 63 (.int .i64 6))
        have e5 := (y5.oth (w.heap.size + 1 + 1) 0 (by omega) (.int .i64 0)).set 0 (.iface 63 (.int .i64 6))
        simp only [List.setIfInBounds_toArray, List.set_cons_zero] at e4 e5
        have hBf : Below w.heap.size w ((w3.setCell ⟨w.heap.size + 1 + 1, 0, none⟩ (.int .i64 0)).setCell ⟨w.heap.size + 1 + 1 + 1, 0, none⟩ (.iface 63 (.int .i64 6))) := by repeat (first | with_reducible assumption | with_reducible exact Below.refl _ _ | with_reducible apply Below.drew | (with_reducible refine Below.alloc ?_ (by first | omega | (simp only [World.size_alloc, size_setCell, size_drew, size_drewN]; omega) | (dsimp only; omega) | (simp only [World.size_alloc, size_setCell, size_drew, size_drewN]; dsimp only; omega)) _) | (with_reducible refine Below.setCell ?_ (by first | omega | (simp only [World.size_alloc, size_setCell, size_drew, size_drewN]; omega) | (dsimp only; omega) | (simp only [World.size_alloc, size_setCell, size_drew, size_drewN]; dsimp only; omega)) _) | (with_reducible apply below_drewN))
        generalize (w3.setCell ⟨w.heap.size + 1 + 1, 0, none⟩ (.int .i64 0)).setCell ⟨w.heap.size + 1 + 1 + 1, 0, none⟩ (.iface 63 (.int .i64 6)) = W4 at *
        have n0 := e4.cell 0
        simp only [List.getElem?_toArray, List.getElem?_cons_succ, List.getElem?_cons_zero] at n0
        have q0 := e5.cell 0
        simp only [List.getElem?_toArray, List.getElem?_cons_succ, List.getElem?_cons_zero] at q0
        simp [Leaves, settle, results, Tryd.results14, go_sem, n0, q0]
        rw [HR.out]
        exact ⟨⟨rfl, rfl⟩, hBf⟩
      | some m =>
        obtain ⟨rfl, hb3⟩ := ht
        have hB3 := hB2.trans (hb3.mono hB2.size)
        clear n0 q0 u4 u5 x1 x2
        have y4 := x4.ext hb3
        have y5 := x5.ext hb3
        clear x4 x5 hb3
        have hz3 := hB3.size
        have n0 := y4.cell 0
        simp only [List.getElem?_toArray, List.getElem?_cons_succ, List.getElem?_cons_zero] at n0
        have q0 := y5.cell 0
        simp only [List.getElem?_toArray, List.getElem?_cons_succ, List.getElem?_cons_zero] at q0
        have u4 := y4.unfrozen 0
        have u5 := y5.unfrozen 0
        go_wp2_with fail
        have e4 := (y4.set 0 (.int .i64 m)).oth (w.heap.size + 1 + 1 + 1) 0 (by omega) .nilIface
        have e5 := (y5.oth (w.heap.size + 1 + 1) 0 (by omega) (.int .i64 m)).set 0 .nilIface
        simp only [List.setIfInBounds_toArray, List.set_cons_zero] at e4 e5
        have hBf : Below w.heap.size w ((w3.setCell ⟨w.heap.size + 1 + 1, 0, none⟩ (.int .i64 m)).setCell ⟨w.heap.size + 1 + 1 + 1, 0, none⟩ .nilIface) := by repeat (first | with_reducible assumption | with_reducible exact Below.refl _ _ | with_reducible apply Below.drew | (with_reducible refine Below.alloc ?_ (by first | omega | (simp only [World.size_alloc, size_setCell, size_drew, size_drewN]; omega) | (dsimp only; omega) | (simp only [World.size_alloc, size_setCell, size_drew, size_drewN]; dsimp only; omega)) _) | (with_reducible refine Below.setCell ?_ (by first | omega | (simp only [World.size_alloc, size_setCell, size_drew, size_drewN]; omega) | (dsimp only; omega) | (simp only [World.size_alloc, size_setCell, size_drew, size_drewN]; dsimp only; omega)) _) | (with_reducible apply below_drewN))
        clear n0 q0 u4 u5
        generalize (w3.setCell ⟨w.heap.size + 1 + 1, 0, none⟩ (.int .i64 m)).setCell ⟨w.heap.size + 1 + 1 + 1, 0, none⟩ .nilIface = W4 at *
        have n0 := e4.cell 0
        simp only [List.getElem?_toArray, List.getElem?_cons_succ, List.getElem?_cons_zero] at n0
        have q0 := e5.cell 0
        simp only [List.getElem?_toArray, List.getElem?_cons_succ, List.getElem?_cons_zero] at q0
        refine leaves_cons (f := 35) (args := #[.pointer (some ⟨w.heap.size + 1 + 1, 0, none⟩), .pointer (some ⟨w.heap.size + 1 + 1 + 1, 0, none⟩)]) (by simp) (by simp [go_sem]) ?_
        refine (evcatch_idle ⟨w.heap.size + 1 + 1, 0, none⟩ ⟨w.heap.size + 1 + 1 + 1, 0, none⟩ _).mono ?_
        rintro e u' w'' ⟨rfl, rfl, rfl⟩
        simp [Leaves, settle, results, Tryd.results14, go_sem, n0, q0]
        rw [HR.out]
        exact ⟨⟨rfl, rfl⟩, hBf⟩
    · have HX : Hid (R = (0, c2)) := HR.out.trans (by rw [if_neg (by simp), if_pos h2])
      rw [errV_ne h2]
      clear C1 C3
      go_wp2_with fail
      have e4 := (x4.set 0 (.int .i64 0)).oth (w.heap.size + 1 + 1 + 1) 0 (by omega) (.iface 63 (.int .i64 c2))
      have e5 := (x5.oth (w.heap.size + 1 + 1) 0 (by omega) (.int .i64 0)).set 0 (.iface 63 (.int .i64 c2))
      simp only [List.setIfInBounds_toArray, List.set_cons_zero] at e4 e5
      have hBf : Below w.heap.size w ((w2.setCell ⟨w.heap.size + 1 + 1, 0, none⟩ (.int .i64 0)).setCell ⟨w.heap.size + 1 + 1 + 1, 0, none⟩ (.iface 63 (.int .i64 c2))) := by repeat (first | with_reducible assumption | with_reducible exact Below.refl _ _ | with_reducible apply Below.drew | (with_reducible refine Below.alloc ?_ (by first | omega | (simp only [World.size_alloc, size_setCell, size_drew, size_drewN]; omega) | (dsimp only; omega) | (simp only [World.size_alloc, size_setCell, size_drew, size_drewN]; dsimp only; omega)) _) | (with_reducible refine Below.setCell ?_ (by first | omega | (simp only [World.size_alloc, size_setCell, size_drew, size_drewN]; omega) | (dsimp only; omega) | (simp only [World.size_alloc, size_setCell, size_drew, size_drewN]; dsimp only; omega)) _) | (with_reducible apply below_drewN))
      clear n0 q0 u4 u5
      generalize (w2.setCell ⟨w.heap.size + 1 + 1, 0, none⟩ (.int .i64 0)).setCell ⟨w.heap.size + 1 + 1 + 1, 0, none⟩ (.iface 63 (.int .i64 c2)) = W4 at *
      have n0 := e4.cell 0
      simp only [List.getElem?_toArray, List.getElem?_cons_succ, List.getElem?_cons_zero] at n0
      have q0 := e5.cell 0
      simp only [List.getElem?_toArray, List.getElem?_cons_succ, List.getElem?_cons_zero] at q0
      simp [bodyPostD, Leaves, settle, results, Tryd.results14, go_sem, n0, q0]
      rw [HX.out]
      exact ⟨⟨rfl, (errV_ne h2).symm⟩, hBf⟩
  · have HX : Hid (R = (0, c1)) := HR.out.trans (by rw [if_pos h1])
    rw [errV_ne h1]
    clear C2 C3
    go_wp2_with fail
    have e4 := (x4.set 0 (.int .i64 0)).oth (w.heap.size + 1 + 1 + 1) 0 (by omega) (.iface 63 (.int .i64 c1))
    have e5 := (x5.oth (w.heap.size + 1 + 1) 0 (by omega) (.int .i64 0)).set 0 (.iface 63 (.int .i64 c1))
    simp only [List.setIfInBounds_toArray, List.set_cons_zero] at e4 e5
    have hBf : Below w.heap.size w ((w1.setCell ⟨w.heap.size + 1 + 1, 0, none⟩ (.int .i64 0)).setCell ⟨w.heap.size + 1 + 1 + 1, 0, none⟩ (.iface 63 (.int .i64 c1))) := by repeat (first | with_reducible assumption | with_reducible exact Below.refl _ _ | with_reducible apply Below.drew | (with_reducible refine Below.alloc ?_ (by first | omega | (simp only [World.size_alloc, size_setCell, size_drew, size_drewN]; omega) | (dsimp only; omega) | (simp only [World.size_alloc, size_setCell, size_drew, size_drewN]; dsimp only; omega)) _) | (with_reducible refine Below.setCell ?_ (by first | omega | (simp only [World.size_alloc, size_setCell, size_drew, size_drewN]; omega) | (dsimp only; omega) | (simp only [World.size_alloc, size_setCell, size_drew, size_drewN]; dsimp only; omega)) _) | (with_reducible apply below_drewN))
    clear n0 q0 u4 u5
    generalize (w1.setCell ⟨w.heap.size + 1 + 1, 0, none⟩ (.int .i64 0)).setCell ⟨w.heap.size + 1 + 1 + 1, 0, none⟩ (.iface 63 (.int .i64 c1)) = W4 at *
    have n0 := e4.cell 0
    simp only [List.getElem?_toArray, List.getElem?_cons_succ, List.getElem?_cons_zero] at n0
    have q0 := e5.cell 0
    simp only [List.getElem?_toArray, List.getElem?_cons_succ, List.getElem?_cons_zero] at q0
    simp [bodyPostD, Leaves, settle, results, Tryd.results14, go_sem, n0, q0]
    rw [HX.out]
    exact ⟨⟨rfl, (errV_ne h1).symm⟩, hBf⟩
end Go.Proofs.YtcecpggkeaohnaaDoor
