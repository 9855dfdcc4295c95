/- The walk through the document's answer on a run. -/
import Derived.Test.YtibmnifenfingaaGreatDoorSHB
import Derived.Test.YtibmnifenfingaaGreatDoorSH2
import Derived.Test.YtibmnifenfingaaGreatDoorRF1S
import Derived.Test.YtibmnifenfingaaGreatDoorRF13
namespace Go.Proofs.YtibmnifenfingaaGreatDoor
set_option maxRecDepth 100000
open Go.RowKit
set_option linter.unusedSimpArgs false
set_option linter.unusedVariables false
theorem rsplit_seed (s : Nat × Nat) (w : World) : Calls Tryz.prog 19 #[.agg #[.int .u64 s.1, .int .u64 s.2]] w fun e w' =>
    e = .returned (.tuple #[.agg #[.int .u64 (nextS s).1, .int .u64 (nextS s).2], .agg #[.int .u64 (ownS s).1, .int .u64 (ownS s).2]]) ∧ Below w.heap.size w w' := rsplit_any s.1 s.2 w
theorem first_seed (n : Int) : IntKind.u64.wrap n = (((firstS n).1 : Nat) : Int) := toNat_wrap64 n
/-- A report, its tape in blocks from lo on. -/
def RepS (w : World) (lo : Nat) (v : Value) (r : Rep) : Prop := ∃ tv, v = .agg #[.int .i64 (r.runs : Nat), .bool r.failed, tv, .int .i64 (r.steps : Nat)] ∧ IntsS w (fun b => lo ≤ b) tv r.tape
set_option maxHeartbeats 8000000 in
theorem rrunof_any (g : GT) (x : ET) (n : Int) (many : Nat) (hm : many ≤ 50) (hc : GT.check g = 0) (hx : ET.check x = 0) (gv xv : Value) (w : World) (hg : GenAt w gv g) (hxv : ExprAt w xv x) :
    Calls Tryz.prog 8 #[gv, xv, .int .i64 n, .int .i64 (many : Nat)] w fun e w' => (∃ v, e = .returned v ∧ RepS w' w.heap.size v (runR g x n many)) ∧ Below w.heap.size w w' := by
  have C3 := Lib.hid (fun sv s W (h : Below w.heap.size w W) hs => rdraw_any g hc gv sv W (hg.ext h) s hs)
  have C4 := Lib.hid (fun t tv W (h : Below w.heap.size w W) ht => rbt_any g x (drawR g t) (drawn_play hc t) hx gv xv tv W (hg.ext h) (hxv.ext h) ht)
  have C5 := Lib.hid (fun t tv lo W hb (h : Below w.heap.size w W) hlo ht => rwalkof_lo lo g x (drawR g t) (drawn_play hc t) hx hb gv xv tv W hlo (hg.ext h) (hxv.ext h) ht)
  have HR : Hid (runR g x n many = runF g x many (firstS n) 0) := rfl
  have hfs := first_seed n
  obtain ⟨gK, ga, gb, gn, gad, gcap, rfl⟩ := hg.shape
  obtain ⟨xk, xn, xs, xad, xcap, rfl⟩ := hxv.shape
  clear hg hxv hc hx
  go_enter Tryz.func8, Tryz.ntmps8
  go_wp2_with fail
  generalize hWW : (((w.alloc (.cells #[.int .i64 gK, .int .i64 ga, .int .i64 gb, .slice gad gn gcap] 24)).alloc (.cells #[.int .i64 xk, .int .i64 xn, .slice xad xs xcap] 27)).alloc (.cells #[.int .i64 0, .bool false, .slice none 0 0, .int .i64 0] 34)) = W2
  have hB2 : Below w.heap.size w W2 := by rw [← hWW]; repeat (first | with_reducible assumption | with_reducible exact Below.refl _ _ | with_reducible apply Below.drew | (with_reducible refine Below.alloc ?_ (by first | omega | (simp only [zA, zS, zD, zN]; omega) | (dsimp only; omega) | (simp only [zA, zS, zD, zN]; dsimp only; omega)) _) | (with_reducible refine Below.setCell ?_ (by first | omega | (simp only [zA, zS, zD, zN]; omega) | (dsimp only; omega) | (simp only [zA, zS, zD, zN]; dsimp only; omega)) _) | (with_reducible apply below_drewN))
  have hz2 : W2.heap.size = w.heap.size + 1 + 1 + 1 := by rw [← hWW]; simp
  have x0 : Blk W2 w.heap.size #[.int .i64 gK, .int .i64 ga, .int .i64 gb, .slice gad gn gcap] 24 := by rw [← hWW]; exact ((Blk.new w #[.int .i64 gK, .int .i64 ga, .int .i64 gb, .slice gad gn gcap] 24).alloc _).alloc _
  have x1 : Blk W2 (w.heap.size + 1) #[.int .i64 xk, .int .i64 xn, .slice xad xs xcap] 27 := by rw [← hWW]; exact (show Blk ((w.alloc (.cells #[.int .i64 gK, .int .i64 ga, .int .i64 gb, .slice gad gn gcap] 24)).alloc (.cells #[.int .i64 xk, .int .i64 xn, .slice xad xs xcap] 27)) (w.heap.size + 1) _ _ by simpa using Blk.new (w.alloc (.cells #[.int .i64 gK, .int .i64 ga, .int .i64 gb, .slice gad gn gcap] 24)) #[.int .i64 xk, .int .i64 xn, .slice xad xs xcap] 27).alloc _
  have x2 : Blk W2 (w.heap.size + 1 + 1) #[.int .i64 0, .bool false, .slice none 0 0, .int .i64 0] 34 := by rw [← hWW]; simpa using Blk.new ((w.alloc (.cells #[.int .i64 gK, .int .i64 ga, .int .i64 gb, .slice gad gn gcap] 24)).alloc (.cells #[.int .i64 xk, .int .i64 xn, .slice xad xs xcap] 27)) #[.int .i64 0, .bool false, .slice none 0 0, .int .i64 0] 34
  clear hWW
  obtain ⟨pr, hpr⟩ : ∃ pr, pr = w.heap.size + 1 + 1 + 1 := ⟨_, rfl⟩
  rw [← hpr] at hz2 ⊢
  obtain ⟨ps, hps⟩ : ∃ ps, ps = pr + 1 := ⟨_, rfl⟩
  rw [← hps]
  have HI : Hid (RunI g x (runR g x n many) W2 many pr (firstS n) 0 many ps ((W2.alloc (.cells #[.int .i64 0, .bool false, .slice none 0 0, .int .i64 0] 34)).alloc (.cells #[.int .u64 ((firstS n).1 : Nat), .int .u64 11400714819323198485] 57))) :=
    ⟨by repeat (first | with_reducible assumption | with_reducible exact Below.refl _ _ | with_reducible apply Below.drew | (with_reducible refine Below.alloc ?_ (by first | omega | (simp only [zA, zS, zD, zN]; omega) | (dsimp only; omega) | (simp only [zA, zS, zD, zN]; dsimp only; omega)) _) | (with_reducible refine Below.setCell ?_ (by first | omega | (simp only [zA, zS, zD, zN]; omega) | (dsimp only; omega) | (simp only [zA, zS, zD, zN]; dsimp only; omega)) _) | (with_reducible apply below_drewN)), by rw [← hz2]; exact (Blk.new _ _ _).alloc _, by have := Blk.new (W2.alloc (.cells #[.int .i64 0, .bool false, .slice none 0 0, .int .i64 0] 34)) #[.int .u64 ((firstS n).1 : Nat), .int .u64 11400714819323198485] 57; rw [World.size_alloc, hz2, ← hps] at this; exact this, by omega, by omega, by omega, first_fit n, by omega, HR.out⟩
  have hpr2 : W2.heap.size ≤ pr := by omega
  have hl2w : w.heap.size + 1 + 1 < pr := by omega
  have hpsr : pr < ps := by omega
  clear hpr hps hz2 HR hfs
  go_loopg [] many (fun k wr => ∃ s r, RunI g x (runR g x n many) W2 many pr s r k ps wr)
  case atStart => exact ⟨_, _, HI.out⟩
  case round =>
    obtain ⟨s, r, hI⟩ := hrel
    have HI2 := Lib.hid hI
    have hbr := hI.below
    have hzr := hbr.size
    have hsum := hI.sum
    have hls := hI.ls
    have hBr := hB2.trans (hbr.mono hB2.size)
    have y0 := x0.ext hbr
    have y1 := x1.ext hbr
    have y2 := x2.ext hbr
    have yr := hI.rep
    have ys := hI.seed
    clear hI HI
    cases gk with
    | zero =>
      have p1 : ¬ (r : Int) < (many : Int) := by omega
      have r0 := yr.cell 0
      have r1 := yr.cell 1
      have r2 := yr.cell 2
      have r3 := yr.cell 3
      simp only [List.getElem?_toArray, List.getElem?_cons_succ, List.getElem?_cons_zero] at r0 r1 r2 r3
      have v0 := y2.cell 0
      have v1 := y2.cell 1
      have v2 := y2.cell 2
      have v3 := y2.cell 3
      simp only [List.getElem?_toArray, List.getElem?_cons_succ, List.getElem?_cons_zero] at v0 v1 v2 v3
      have u0 := y2.unfrozen 0
      have u1 := y2.unfrozen 1
      have u2 := y2.unfrozen 2
      have u3 := y2.unfrozen 3
      have HX : Hid (runR g x n many = ⟨r, false, [], 0⟩) := HI2.out.eq
      have e2 := (((y2.set 0 (.int .i64 (r : Nat))).set 1 (.bool false)).set 2 (.slice none 0 0)).set 3 (.int .i64 0)
      simp only [List.setIfInBounds_toArray, List.set_cons_zero, List.set_cons_succ] at e2
      have hBf : Below w.heap.size w ((((wr.setCell ⟨w.heap.size + 1 + 1, 0, none⟩ (.int .i64 (r : Nat))).setCell ⟨w.heap.size + 1 + 1, 1, none⟩ (.bool false)).setCell ⟨w.heap.size + 1 + 1, 2, none⟩ (.slice none 0 0)).setCell ⟨w.heap.size + 1 + 1, 3, none⟩ (.int .i64 0)) := by repeat (first | with_reducible assumption | with_reducible exact Below.refl _ _ | with_reducible apply Below.drew | (with_reducible refine Below.alloc ?_ (by first | omega | (simp only [zA, zS, zD, zN]; omega) | (dsimp only; omega) | (simp only [zA, zS, zD, zN]; dsimp only; omega)) _) | (with_reducible refine Below.setCell ?_ (by first | omega | (simp only [zA, zS, zD, zN]; omega) | (dsimp only; omega) | (simp only [zA, zS, zD, zN]; dsimp only; omega)) _) | (with_reducible apply below_drewN))
      clear hsum
      go_wp2_with fail
      clear v0 v1 v2 v3 u0 u1 u2 u3 r0 r1 r2 r3
      generalize (((wr.setCell ⟨w.heap.size + 1 + 1, 0, none⟩ (.int .i64 (r : Nat))).setCell ⟨w.heap.size + 1 + 1, 1, none⟩ (.bool false)).setCell ⟨w.heap.size + 1 + 1, 2, none⟩ (.slice none 0 0)).setCell ⟨w.heap.size + 1 + 1, 3, none⟩ (.int .i64 0) = Wf at *
      have v0 := e2.cell 0
      have v1 := e2.cell 1
      have v2 := e2.cell 2
      have v3 := e2.cell 3
      simp only [List.getElem?_toArray, List.getElem?_cons_succ, List.getElem?_cons_zero] at v0 v1 v2 v3
      refine bodyPost_ret (v := .agg #[.int .i64 (r : Nat), .bool false, .slice none 0 0, .int .i64 0]) (by simp [results, Tryz.results8, go_sem, v0, v1, v2, v3]) rfl ?_
      rw [HX.out]
      exact ⟨⟨_, rfl, ⟨_, rfl, ⟨by simp, none, 0, rfl, by simp, by decide, fun _ => rfl, fun h => absurd h (by simp)⟩⟩⟩, hBf⟩
    | succ gk =>
      have p1 : (r : Int) < (many : Int) := by omega
      have r0 := yr.cell 0
      have r1 := yr.cell 1
      have r2 := yr.cell 2
      have r3 := yr.cell 3
      simp only [List.getElem?_toArray, List.getElem?_cons_succ, List.getElem?_cons_zero] at r0 r1 r2 r3
      have s0 := ys.cell 0
      have s1 := ys.cell 1
      simp only [List.getElem?_toArray, List.getElem?_cons_succ, List.getElem?_cons_zero] at s0 s1
      go_wp2_with fail
      refine (rsplit_seed s _).mono ?_
      rintro _ w5 ⟨rfl, hb5⟩
      have hB5 := hBr.trans (hb5.mono hBr.size)
      have hb5' : Below W2.heap.size W2 w5 := hbr.trans (hb5.mono hzr)
      have y0 := y0.ext hb5
      have y1 := y1.ext hb5
      have y2 := y2.ext hb5
      have yr := yr.ext hb5
      have ys := ys.ext hb5
      have hlr := yr.lt
      have hlsd := ys.lt
      have hl2 := y2.lt
      have hz5 := hb5'.size
      clear r0 r1 r2 r3 s0 s1 hb5
      have r0 := yr.cell 0
      have r1 := yr.cell 1
      have r2 := yr.cell 2
      have r3 := yr.cell 3
      simp only [List.getElem?_toArray, List.getElem?_cons_succ, List.getElem?_cons_zero] at r0 r1 r2 r3
      have s0 := ys.cell 0
      have s1 := ys.cell 1
      simp only [List.getElem?_toArray, List.getElem?_cons_succ, List.getElem?_cons_zero] at s0 s1
      have g0 := y0.cell 0
      have g1 := y0.cell 1
      have g2 := y0.cell 2
      have g3 := y0.cell 3
      simp only [List.getElem?_toArray, List.getElem?_cons_succ, List.getElem?_cons_zero] at g0 g1 g2 g3
      have ur := yr.unfrozen 0
      have us0 := ys.unfrozen 0
      have us1 := ys.unfrozen 1
      have n1 : ¬ ps = pr := by omega
      have n2 : ¬ pr = ps := by omega
      have n3 : ¬ w.heap.size = pr := by omega
      have n4 : ¬ w.heap.size = ps := by omega
      have rb : (r : Int) ≤ 49 := by omega
      have rb0 : (0 : Int) ≤ (r : Int) := by omega
      clear hsum
      go_upto_region 7 with (fail)
      have hBn : Below W2.heap.size W2 (((((w5.setCell ⟨ps, 0, none⟩ (.int .u64 (nextS s).1)).setCell ⟨ps, 1, none⟩ (.int .u64 (nextS s).2)).setCell ⟨pr, 0, none⟩ (.int .i64 ((r : Int) + 1))).alloc (.cells #[.int .u64 (nextS s).1, .int .u64 (nextS s).2] 57)).alloc (.cells #[.int .u64 (ownS s).1, .int .u64 (ownS s).2] 57)) := by
        refine Below.alloc (Below.alloc (Below.setCell (Below.setCell (Below.setCell hb5' hls _) hls _) hpr2 _) ?_ _) ?_ _ <;> simp only [World.size_alloc, size_setCell] <;> omega
      have n5 : w.heap.size + 1 ≠ ps := by omega
      have n6 : w.heap.size + 1 ≠ pr := by omega
      have n7 : w.heap.size + 1 + 1 ≠ ps := by omega
      have n8 : w.heap.size + 1 + 1 ≠ pr := by omega
      have yN0 : Blk (((((w5.setCell ⟨ps, 0, none⟩ (.int .u64 (nextS s).1)).setCell ⟨ps, 1, none⟩ (.int .u64 (nextS s).2)).setCell ⟨pr, 0, none⟩ (.int .i64 ((r : Int) + 1))).alloc (.cells #[.int .u64 (nextS s).1, .int .u64 (nextS s).2] 57)).alloc (.cells #[.int .u64 (ownS s).1, .int .u64 (ownS s).2] 57)) w.heap.size #[.int .i64 gK, .int .i64 ga, .int .i64 gb, .slice gad gn gcap] 24 := ((((y0.oth ps 0 n4 _).oth ps 1 n4 _).oth pr 0 n3 _).alloc _).alloc _
      have yN1 : Blk (((((w5.setCell ⟨ps, 0, none⟩ (.int .u64 (nextS s).1)).setCell ⟨ps, 1, none⟩ (.int .u64 (nextS s).2)).setCell ⟨pr, 0, none⟩ (.int .i64 ((r : Int) + 1))).alloc (.cells #[.int .u64 (nextS s).1, .int .u64 (nextS s).2] 57)).alloc (.cells #[.int .u64 (ownS s).1, .int .u64 (ownS s).2] 57)) (w.heap.size + 1) #[.int .i64 xk, .int .i64 xn, .slice xad xs xcap] 27 := ((((y1.oth ps 0 n5 _).oth ps 1 n5 _).oth pr 0 n6 _).alloc _).alloc _
      have yN2 : Blk (((((w5.setCell ⟨ps, 0, none⟩ (.int .u64 (nextS s).1)).setCell ⟨ps, 1, none⟩ (.int .u64 (nextS s).2)).setCell ⟨pr, 0, none⟩ (.int .i64 ((r : Int) + 1))).alloc (.cells #[.int .u64 (nextS s).1, .int .u64 (nextS s).2] 57)).alloc (.cells #[.int .u64 (ownS s).1, .int .u64 (ownS s).2] 57)) (w.heap.size + 1 + 1) #[.int .i64 0, .bool false, .slice none 0 0, .int .i64 0] 34 := ((((y2.oth ps 0 n7 _).oth ps 1 n7 _).oth pr 0 n8 _).alloc _).alloc _
      have yNr : Blk (((((w5.setCell ⟨ps, 0, none⟩ (.int .u64 (nextS s).1)).setCell ⟨ps, 1, none⟩ (.int .u64 (nextS s).2)).setCell ⟨pr, 0, none⟩ (.int .i64 ((r : Int) + 1))).alloc (.cells #[.int .u64 (nextS s).1, .int .u64 (nextS s).2] 57)).alloc (.cells #[.int .u64 (ownS s).1, .int .u64 (ownS s).2] 57)) pr #[.int .i64 ((r : Int) + 1), .bool false, .slice none 0 0, .int .i64 0] 34 := by
        have := ((((yr.oth ps 0 n2 (.int .u64 (nextS s).1)).oth ps 1 n2 (.int .u64 (nextS s).2)).set 0 (.int .i64 ((r : Int) + 1))).alloc (.cells #[.int .u64 (nextS s).1, .int .u64 (nextS s).2] 57)).alloc (.cells #[.int .u64 (ownS s).1, .int .u64 (ownS s).2] 57)
        simpa using this
      have yNs : Blk (((((w5.setCell ⟨ps, 0, none⟩ (.int .u64 (nextS s).1)).setCell ⟨ps, 1, none⟩ (.int .u64 (nextS s).2)).setCell ⟨pr, 0, none⟩ (.int .i64 ((r : Int) + 1))).alloc (.cells #[.int .u64 (nextS s).1, .int .u64 (nextS s).2] 57)).alloc (.cells #[.int .u64 (ownS s).1, .int .u64 (ownS s).2] 57)) ps #[.int .u64 (nextS s).1, .int .u64 (nextS s).2] 57 := by
        have := ((((ys.set 0 (.int .u64 (nextS s).1)).set 1 (.int .u64 (nextS s).2)).oth pr 0 n1 (.int .i64 ((r : Int) + 1))).alloc (.cells #[.int .u64 (nextS s).1, .int .u64 (nextS s).2] 57)).alloc (.cells #[.int .u64 (ownS s).1, .int .u64 (ownS s).2] 57)
        simpa using this
      have yNo : Blk (((((w5.setCell ⟨ps, 0, none⟩ (.int .u64 (nextS s).1)).setCell ⟨ps, 1, none⟩ (.int .u64 (nextS s).2)).setCell ⟨pr, 0, none⟩ (.int .i64 ((r : Int) + 1))).alloc (.cells #[.int .u64 (nextS s).1, .int .u64 (nextS s).2] 57)).alloc (.cells #[.int .u64 (ownS s).1, .int .u64 (ownS s).2] 57)) (w5.heap.size + 1) #[.int .u64 (ownS s).1, .int .u64 (ownS s).2] 57 := by
        have := Blk.new ((((w5.setCell ⟨ps, 0, none⟩ (.int .u64 (nextS s).1)).setCell ⟨ps, 1, none⟩ (.int .u64 (nextS s).2)).setCell ⟨pr, 0, none⟩ (.int .i64 ((r : Int) + 1))).alloc (.cells #[.int .u64 (nextS s).1, .int .u64 (nextS s).2] 57)) #[.int .u64 (ownS s).1, .int .u64 (ownS s).2] 57
        simpa [size_setCell] using this
      clear r0 r1 r2 r3 s0 s1 g0 g1 g2 g3 ur us0 us1 y0 y1 y2 yr ys
      generalize (((((w5.setCell ⟨ps, 0, none⟩ (.int .u64 (nextS s).1)).setCell ⟨ps, 1, none⟩ (.int .u64 (nextS s).2)).setCell ⟨pr, 0, none⟩ (.int .i64 ((r : Int) + 1))).alloc (.cells #[.int .u64 (nextS s).1, .int .u64 (nextS s).2] 57)).alloc (.cells #[.int .u64 (ownS s).1, .int .u64 (ownS s).2] 57)) = W6 at *
      have hB6 := hB2.trans (hBn.mono hB2.size)
      have hl6 := yNr.lt
      have hl62 := yN2.lt
      have g0 := yN0.cell 0
      have g1 := yN0.cell 1
      have g2 := yN0.cell 2
      have g3 := yN0.cell 3
      simp only [List.getElem?_toArray, List.getElem?_cons_succ, List.getElem?_cons_zero] at g0 g1 g2 g3
      have o0 := yNo.cell 0
      have o1 := yNo.cell 1
      simp only [List.getElem?_toArray, List.getElem?_cons_succ, List.getElem?_cons_zero] at o0 o1
      go_wp2_with fail
      refine (C3.out _ (ownS s) _ hB6 (seed_at (own_fit s))).mono ?_
      rintro _ w7 ⟨⟨tv, rfl, htv⟩, hb7⟩
      have hB7 := hB6.trans (hb7.mono hB6.size)
      have hBn := hBn.trans (hb7.mono hBn.size)
      have yN0 := yN0.ext hb7
      have yN1 := yN1.ext hb7
      have yN2 := yN2.ext hb7
      have yNr := yNr.ext hb7
      have yNs := yNs.ext hb7
      have h67 := hb7.size
      have HTV := Lib.hid htv
      clear g0 g1 g2 g3 o0 o1 hb7 htv yNo
      have g0 := yN0.cell 0
      have g1 := yN0.cell 1
      have g2 := yN0.cell 2
      have g3 := yN0.cell 3
      simp only [List.getElem?_toArray, List.getElem?_cons_succ, List.getElem?_cons_zero] at g0 g1 g2 g3
      have f0 := yN1.cell 0
      have f1 := yN1.cell 1
      have f2 := yN1.cell 2
      simp only [List.getElem?_toArray, List.getElem?_cons_succ, List.getElem?_cons_zero] at f0 f1 f2
      go_wp2_with fail
      refine (C4.out (ownS s) tv _ hB7 HTV.out.at).mono ?_
      rintro _ w8 ⟨rfl, hb8⟩
      have hB8 := hB7.trans (hb8.mono hB7.size)
      have hBn := hBn.trans (hb8.mono hBn.size)
      have yN0 := yN0.ext hb8
      have yN1 := yN1.ext hb8
      have yN2 := yN2.ext hb8
      have yNr := yNr.ext hb8
      have yNs := yNs.ext hb8
      have h78 := hb8.size
      have HTV8 := Lib.hid (HTV.out.keepB hb8)
      clear g0 g1 g2 g3 f0 f1 f2 hb8 HTV
      have HST : Hid (runR g x n many = if badR g x (drawR g (ownS s)) then ⟨r + 1, true, (walkR g x (drawR g (ownS s))).1, (walkR g x (drawR g (ownS s))).2⟩ else runF g x gk (nextS s) (r + 1)) := HI2.out.eq
      have HFIT := Lib.hid (next_fit HI2.out.fit)
      have HSUM := Lib.hid HI2.out.sum
      obtain ⟨bt, hbt⟩ : ∃ b, b = badR g x (drawR g (ownS s)) := ⟨_, rfl⟩
      rw [← hbt]
      cases bt with
      | true =>
        have hbd := hbt.symm
        have HX : Hid (runR g x n many = ⟨r + 1, true, (walkR g x (drawR g (ownS s))).1, (walkR g x (drawR g (ownS s))).2⟩) := HST.out.trans (by rw [hbd]; rfl)
        have HBD := Lib.hid hbd
        have hlo8 := hBn.size
        have hB8s : Below w.heap.size w (w8.setCell ⟨pr, 1, none⟩ (.bool true)) := by refine Below.setCell hB8 ?_ _; dsimp only; omega
        have HTVs : Hid (IntsS (w8.setCell ⟨pr, 1, none⟩ (.bool true)) (fun b => W6.heap.size ≤ b) tv (drawR g (ownS s))) := by
          refine HTV8.out.keep' (by simp only [size_setCell]; exact Nat.le_refl _) fun b hb hlt => ?_
          have hb' : W6.heap.size ≤ b := hb
          rw [Below.heap_setCell _ _ _ _ (by dsimp only; omega)]
        have n9 : w.heap.size ≠ pr := n3
        have yN0 := yN0.oth pr 1 n3 (.bool true)
        have yN1 := yN1.oth pr 1 n6 (.bool true)
        have yN2 := yN2.oth pr 1 n8 (.bool true)
        have ur1 := yNr.unfrozen 1
        have r0 := yNr.cell 0
        have r1 := yNr.cell 1
        have r2 := yNr.cell 2
        have r3 := yNr.cell 3
        simp only [List.getElem?_toArray, List.getElem?_cons_succ, List.getElem?_cons_zero] at r0 r1 r2 r3
        have yNr := yNr.set 1 (.bool true)
        simp only [List.setIfInBounds_toArray, List.set_cons_zero, List.set_cons_succ] at yNr
        have hz8s : (w8.setCell ⟨pr, 1, none⟩ (.bool true)).heap.size = w8.heap.size := size_setCell _ _ _
        clear hbd hbt HST HTV8 yNs
        go_upto_region 10 with (fail)
        clear r0 r1 r2 r3 ur1
        generalize w8.setCell ⟨pr, 1, none⟩ (.bool true) = W8 at *
        have g0 := yN0.cell 0
        have g1 := yN0.cell 1
        have g2 := yN0.cell 2
        have g3 := yN0.cell 3
        simp only [List.getElem?_toArray, List.getElem?_cons_succ, List.getElem?_cons_zero] at g0 g1 g2 g3
        have f0 := yN1.cell 0
        have f1 := yN1.cell 1
        have f2 := yN1.cell 2
        simp only [List.getElem?_toArray, List.getElem?_cons_succ, List.getElem?_cons_zero] at f0 f1 f2
        go_wp2_with fail
        refine (C5.out (ownS s) tv W6.heap.size _ HBD.out hB8s (by omega) HTVs.out).mono ?_
        rintro _ w9 ⟨⟨mv, rfl, hmv⟩, hb9⟩
        have hB9 := hB8s.trans (hb9.mono hB8s.size)
        have yN2 := yN2.ext hb9
        have yNr := yNr.ext hb9
        have HMV := Lib.hid hmv
        obtain ⟨mad, mcap, rfl, _⟩ := hmv.at.form
        have hprl := yNr.lt
        have hl2l := yN2.lt
        clear g0 g1 g2 g3 f0 f1 f2 hb9 hmv
        generalize (walkR g x (drawR g (ownS s))).2 = st at *
        generalize (walkR g x (drawR g (ownS s))).1 = ml at *
        have r0 := yNr.cell 0
        have r1 := yNr.cell 1
        have r2 := yNr.cell 2
        have r3 := yNr.cell 3
        simp only [List.getElem?_toArray, List.getElem?_cons_succ, List.getElem?_cons_zero] at r0 r1 r2 r3
        have ur2 := yNr.unfrozen 2
        have ur3 := yNr.unfrozen 3
        have v0 := yN2.cell 0
        have v1 := yN2.cell 1
        have v2 := yN2.cell 2
        have v3 := yN2.cell 3
        simp only [List.getElem?_toArray, List.getElem?_cons_succ, List.getElem?_cons_zero] at v0 v1 v2 v3
        have u0 := yN2.unfrozen 0
        have u1 := yN2.unfrozen 1
        have u2 := yN2.unfrozen 2
        have u3 := yN2.unfrozen 3
        have e2 := (((((yN2.oth pr 2 n8 (.slice mad ml.length mcap)).oth pr 3 n8 (.int .i64 (st : Nat))).set 0 (.int .i64 ((r : Int) + 1))).set 1 (.bool true)).set 2 (.slice mad ml.length mcap)).set 3 (.int .i64 (st : Nat))
        simp only [List.setIfInBounds_toArray, List.set_cons_zero, List.set_cons_succ] at e2
        have hBf : Below w.heap.size w ((((((w9.setCell ⟨pr, 2, none⟩ (.slice mad ml.length mcap)).setCell ⟨pr, 3, none⟩ (.int .i64 (st : Nat))).setCell ⟨w.heap.size + 1 + 1, 0, none⟩ (.int .i64 ((r : Int) + 1))).setCell ⟨w.heap.size + 1 + 1, 1, none⟩ (.bool true)).setCell ⟨w.heap.size + 1 + 1, 2, none⟩ (.slice mad ml.length mcap)).setCell ⟨w.heap.size + 1 + 1, 3, none⟩ (.int .i64 (st : Nat))) := by
          refine Below.setCell (Below.setCell (Below.setCell (Below.setCell (Below.setCell (Below.setCell hB9 ?_ _) ?_ _) ?_ _) ?_ _) ?_ _) ?_ _ <;> dsimp only <;> omega
        have HF : Hid (IntsS ((((((w9.setCell ⟨pr, 2, none⟩ (.slice mad ml.length mcap)).setCell ⟨pr, 3, none⟩ (.int .i64 (st : Nat))).setCell ⟨w.heap.size + 1 + 1, 0, none⟩ (.int .i64 ((r : Int) + 1))).setCell ⟨w.heap.size + 1 + 1, 1, none⟩ (.bool true)).setCell ⟨w.heap.size + 1 + 1, 2, none⟩ (.slice mad ml.length mcap)).setCell ⟨w.heap.size + 1 + 1, 3, none⟩ (.int .i64 (st : Nat))) (fun b => w.heap.size ≤ b) (.slice mad ml.length mcap) ml) := by
          refine (HMV.out.keep' (by simp only [size_setCell]; exact Nat.le_refl _) fun b hb hlt => ?_).mono (fun b hb _ => Nat.le_trans (by omega) hb)
          have hb' : W6.heap.size ≤ b := hb
          rw [Below.heap_setCell _ _ _ _ (by dsimp only; omega), Below.heap_setCell _ _ _ _ (by dsimp only; omega), Below.heap_setCell _ _ _ _ (by dsimp only; omega), Below.heap_setCell _ _ _ _ (by dsimp only; omega), Below.heap_setCell _ _ _ _ (by dsimp only; omega), Below.heap_setCell _ _ _ _ (by dsimp only; omega)]
        go_wp2_with fail
        clear v0 v1 v2 v3 u0 u1 u2 u3 r0 r1 r2 r3 ur2 ur3
        generalize ((((((w9.setCell ⟨pr, 2, none⟩ (.slice mad ml.length mcap)).setCell ⟨pr, 3, none⟩ (.int .i64 (st : Nat))).setCell ⟨w.heap.size + 1 + 1, 0, none⟩ (.int .i64 ((r : Int) + 1))).setCell ⟨w.heap.size + 1 + 1, 1, none⟩ (.bool true)).setCell ⟨w.heap.size + 1 + 1, 2, none⟩ (.slice mad ml.length mcap)).setCell ⟨w.heap.size + 1 + 1, 3, none⟩ (.int .i64 (st : Nat))) = Wf at *
        have v0 := e2.cell 0
        have v1 := e2.cell 1
        have v2 := e2.cell 2
        have v3 := e2.cell 3
        simp only [List.getElem?_toArray, List.getElem?_cons_succ, List.getElem?_cons_zero] at v0 v1 v2 v3
        refine bodyPost_ret (v := .agg #[.int .i64 ((r : Int) + 1), .bool true, .slice mad ml.length mcap, .int .i64 (st : Nat)]) (by simp [results, Tryz.results8, go_sem, v0, v1, v2, v3]) rfl ?_
        rw [HX.out]
        exact ⟨⟨_, rfl, ⟨_, by simp, HF.out⟩⟩, hBf⟩
      | false =>
        have hbd := hbt.symm
        have HX : Hid (runR g x n many = runF g x gk (nextS s) (r + 1)) := HST.out.trans (by rw [hbd]; rfl)
        clear hbd hbt HST
        go_wp2_with fail
        have HN : Hid (RunI g x (runR g x n many) W2 many pr (nextS s) (r + 1) gk ps w8) :=
          ⟨hBn, yNr, yNs, hpr2, hls, by omega, HFIT.out, by have := HSUM.out; omega, HX.out⟩
        go_roundg gk
        case measure => omega
        case rel => exact ⟨_, _, HN.out⟩
end Go.Proofs.YtibmnifenfingaaGreatDoor
