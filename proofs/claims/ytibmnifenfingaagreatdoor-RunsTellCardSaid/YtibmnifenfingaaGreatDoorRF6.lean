/- The walk through the document's answer on one choice of a play. -/
import Derived.Test.YtibmnifenfingaaGreatDoorPPlay
import Derived.Test.YtibmnifenfingaaGreatDoorGNS
import Derived.Deep.DeepCutAuto
namespace Go.Proofs.YtibmnifenfingaaGreatDoor
set_option maxRecDepth 100000
open Go.RowKit
set_option linter.unusedSimpArgs false
set_option linter.unusedVariables false
/-- What a choice answers: the play behind it. -/
def ChoR (w : World) (vl : Bool) (vn : Int) (vk vcap : Nat) (vad : Option Addr) (tv : Value) (q : Nat) (r : Except Int (Int × (List Int × Nat))) (e : Ending) (w' : World) : Prop := match r with
  | .error x => e = .returned (.tuple #[.agg #[.bool vl, .int .i64 vn, .slice vad vk vcap, tv, .int .i64 q, .int .i64 x], .int .i64 0]) ∧ Below w.heap.size w w'
  | .ok (c, (t, q')) => (∃ tv', e = .returned (.tuple #[.agg #[.bool vl, .int .i64 vn, .slice vad vk vcap, tv', .int .i64 (q' : Nat), .int .i64 0], .int .i64 c]) ∧ IntsS w' (fun b => w.heap.size ≤ b) tv' t) ∧ Below w.heap.size w w'
section
variable {w : World} {vl : Bool} {vn : Int} {vk vcap q : Nat} {vad : Option Addr} {l tape : List Int} {m : Int} {lad tad : Option Addr} {lcap tcap ln tn : Nat}
set_option maxHeartbeats 4000000 in
theorem rcho_short (hl : IntsAt w (.slice lad ln lcap) l) (ht : IntsAt w (.slice tad tn tcap) tape) (hln : Hid (ln = l.length)) (htn : Hid (tn = tape.length)) (hm0 : 0 ≤ m) (hm1 : m ≤ 1000) (hq : q ≤ 1099511627776) (hn : tn ≤ 1099511627776) (h : ¬ q < ln) :
    Calls Tryz.prog 82 #[.agg #[.bool vl, .int .i64 vn, .slice vad vk vcap, .slice tad tn tcap, .int .i64 q, .int .i64 0], .slice lad ln lcap, .bool false, .int .i64 m] w (ChoR w vl vn vk vcap vad (.slice tad tn tcap) q (stC false l m (tape, q))) := by
  have p1 : ¬ (q : Int) < (ln : Int) := by omega
  have p2 : ¬ q < ln := by omega
  have HST : Hid (stC false l m (tape, q) = .error 5) := by
    show _ = _
    have hln0 := hln.out
    unfold stC
    dsimp only
    rw [if_pos ⟨by omega, rfl⟩]
  clear hl ht
  go_enter Tryz.func82, Tryz.ntmps82
  go_upto_region 6 with (fail)
  generalize hW : (w.alloc (.cells #[.bool vl, .int .i64 vn, .slice vad vk vcap, .slice tad tn tcap, .int .i64 q, .int .i64 5] 110)).alloc (.cells #[.bool false, .int .i64 0, .slice none 0 0, .slice none 0 0, .int .i64 0, .int .i64 0] 110) = W0
  have hB0 : Below w.heap.size w W0 := by rw [← hW]; repeat (first | with_reducible assumption | with_reducible exact Below.refl _ _ | with_reducible apply Below.drew | (with_reducible refine Below.alloc ?_ (by first | omega | (simp only [zA, zS, zD, zN]; omega) | (dsimp only; omega) | (simp only [zA, zS, zD, zN]; dsimp only; omega)) _) | (with_reducible refine Below.setCell ?_ (by first | omega | (simp only [zA, zS, zD, zN]; omega) | (dsimp only; omega) | (simp only [zA, zS, zD, zN]; dsimp only; omega)) _) | (with_reducible apply below_drewN))
  have x0 : Blk W0 w.heap.size #[.bool vl, .int .i64 vn, .slice vad vk vcap, .slice tad tn tcap, .int .i64 q, .int .i64 5] 110 := by rw [← hW]; exact (Blk.new w #[.bool vl, .int .i64 vn, .slice vad vk vcap, .slice tad tn tcap, .int .i64 q, .int .i64 5] 110).alloc _
  have x1 : Blk W0 (w.heap.size + 1) #[.bool false, .int .i64 0, .slice none 0 0, .slice none 0 0, .int .i64 0, .int .i64 0] 110 := by rw [← hW]; simpa using Blk.new (w.alloc (.cells #[.bool vl, .int .i64 vn, .slice vad vk vcap, .slice tad tn tcap, .int .i64 q, .int .i64 5] 110)) #[.bool false, .int .i64 0, .slice none 0 0, .slice none 0 0, .int .i64 0, .int .i64 0] 110
  have hz0 : w.heap.size + 2 ≤ W0.heap.size := by have := x1.lt; omega
  have hlt0 : w.heap.size < W0.heap.size := by omega
  have hlt1 : w.heap.size + 1 < W0.heap.size := by omega
  clear hW
  have d0 := x0.cell 0
  have d1 := x0.cell 1
  have d2 := x0.cell 2
  have d3 := x0.cell 3
  have d4 := x0.cell 4
  have d5 := x0.cell 5
  simp only [List.getElem?_toArray, List.getElem?_cons_succ, List.getElem?_cons_zero] at d0 d1 d2 d3 d4 d5
  have e0 := x1.cell 0
  have e1 := x1.cell 1
  have e2 := x1.cell 2
  have e3 := x1.cell 3
  have e4 := x1.cell 4
  have e5 := x1.cell 5
  simp only [List.getElem?_toArray, List.getElem?_cons_succ, List.getElem?_cons_zero] at e0 e1 e2 e3 e4 e5
  have u0 := x1.unfrozen 0
  have u1 := x1.unfrozen 1
  have u2 := x1.unfrozen 2
  have u3 := x1.unfrozen 3
  have u4 := x1.unfrozen 4
  have u5 := x1.unfrozen 5
  go_wp2_with fail
  refine bodyPost_ret (v := .tuple #[.agg #[.bool vl, .int .i64 vn, .slice vad vk vcap, .slice tad tn tcap, .int .i64 q, .int .i64 5], .int .i64 0]) (by simp [results, Tryz.results82, go_sem, d0, d1, d2, d3, d4, d5, e0, e1, e2, e3, e4, e5, u0, u1, u2, u3, u4, u5]) rfl ?_
  have hBF : Below w.heap.size w (((((((W0).setCell ⟨w.heap.size + 1, 0, none⟩ (.bool vl)).setCell ⟨w.heap.size + 1, 1, none⟩ (.int .i64 vn)).setCell ⟨w.heap.size + 1, 2, none⟩ (.slice vad vk vcap)).setCell ⟨w.heap.size + 1, 3, none⟩ (.slice tad tn tcap)).setCell ⟨w.heap.size + 1, 4, none⟩ (.int .i64 q)).setCell ⟨w.heap.size + 1, 5, none⟩ (.int .i64 5)) := by
    refine (((((hB0.setCell ?_ _).setCell ?_ _).setCell ?_ _).setCell ?_ _).setCell ?_ _).setCell ?_ _
    all_goals (simp <;> omega)
  rw [HST.out]
  exact ⟨rfl, hBF⟩
set_option maxHeartbeats 4000000 in
theorem rcho_low (hl : IntsAt w (.slice lad ln lcap) l) (ht : IntsAt w (.slice tad tn tcap) tape) (hln : Hid (ln = l.length)) (htn : Hid (tn = tape.length)) (hm0 : 0 ≤ m) (hm1 : m ≤ 1000) (hq : q ≤ 1099511627776) (hn : tn ≤ 1099511627776) (h : q < ln) (hx0 : l.getD q 0 < 0) :
    Calls Tryz.prog 82 #[.agg #[.bool vl, .int .i64 vn, .slice vad vk vcap, .slice tad tn tcap, .int .i64 q, .int .i64 0], .slice lad ln lcap, .bool false, .int .i64 m] w (ChoR w vl vn vk vcap vad (.slice tad tn tcap) q (stC false l m (tape, q))) := by
  obtain ⟨lad', lcap', e1, _, _, hl64, hlc⟩ := hl.form
  obtain ⟨lb, loff, e2, hlb, hcc⟩ := hlc (by have := hln.out; omega)
  simp only [Value.slice.injEq] at e1
  obtain ⟨rfl, -, rfl⟩ := e1
  subst e2
  have cj := hcc q (by have := hln.out; omega)
  have p0 : (0 : Int) ≤ (q : Int) := by omega
  have p1 : (q : Int) < (ln : Int) := by omega
  have p2 : q < ln := by omega
  generalize hx : l.getD q 0 = x at *
  have HXV := Lib.hid hx
  clear hcc hlc hx hl64
  have HST : Hid (stC false l m (tape, q) = .error 1) := by
    show _ = _
    have hln0 := hln.out
    have hq : q < l.length := by omega
    unfold stC
    dsimp only
    rw [if_neg (by simp [hq]), HXV.out]
    rw [if_pos (by simp; omega)]
  clear hl ht
  go_enter Tryz.func82, Tryz.ntmps82
  go_upto_region 11 with (fail)
  generalize hW : (w.alloc (.cells #[.bool vl, .int .i64 vn, .slice vad vk vcap, .slice tad tn tcap, .int .i64 q, .int .i64 1] 110)).alloc (.cells #[.bool false, .int .i64 0, .slice none 0 0, .slice none 0 0, .int .i64 0, .int .i64 0] 110) = W0
  have hB0 : Below w.heap.size w W0 := by rw [← hW]; repeat (first | with_reducible assumption | with_reducible exact Below.refl _ _ | with_reducible apply Below.drew | (with_reducible refine Below.alloc ?_ (by first | omega | (simp only [zA, zS, zD, zN]; omega) | (dsimp only; omega) | (simp only [zA, zS, zD, zN]; dsimp only; omega)) _) | (with_reducible refine Below.setCell ?_ (by first | omega | (simp only [zA, zS, zD, zN]; omega) | (dsimp only; omega) | (simp only [zA, zS, zD, zN]; dsimp only; omega)) _) | (with_reducible apply below_drewN))
  have x0 : Blk W0 w.heap.size #[.bool vl, .int .i64 vn, .slice vad vk vcap, .slice tad tn tcap, .int .i64 q, .int .i64 1] 110 := by rw [← hW]; exact (Blk.new w #[.bool vl, .int .i64 vn, .slice vad vk vcap, .slice tad tn tcap, .int .i64 q, .int .i64 1] 110).alloc _
  have x1 : Blk W0 (w.heap.size + 1) #[.bool false, .int .i64 0, .slice none 0 0, .slice none 0 0, .int .i64 0, .int .i64 0] 110 := by rw [← hW]; simpa using Blk.new (w.alloc (.cells #[.bool vl, .int .i64 vn, .slice vad vk vcap, .slice tad tn tcap, .int .i64 q, .int .i64 1] 110)) #[.bool false, .int .i64 0, .slice none 0 0, .slice none 0 0, .int .i64 0, .int .i64 0] 110
  have hz0 : w.heap.size + 2 ≤ W0.heap.size := by have := x1.lt; omega
  have hlt0 : w.heap.size < W0.heap.size := by omega
  have hlt1 : w.heap.size + 1 < W0.heap.size := by omega
  clear hW
  have d0 := x0.cell 0
  have d1 := x0.cell 1
  have d2 := x0.cell 2
  have d3 := x0.cell 3
  have d4 := x0.cell 4
  have d5 := x0.cell 5
  simp only [List.getElem?_toArray, List.getElem?_cons_succ, List.getElem?_cons_zero] at d0 d1 d2 d3 d4 d5
  have e0 := x1.cell 0
  have e1 := x1.cell 1
  have e2 := x1.cell 2
  have e3 := x1.cell 3
  have e4 := x1.cell 4
  have e5 := x1.cell 5
  simp only [List.getElem?_toArray, List.getElem?_cons_succ, List.getElem?_cons_zero] at e0 e1 e2 e3 e4 e5
  have u0 := x1.unfrozen 0
  have u1 := x1.unfrozen 1
  have u2 := x1.unfrozen 2
  have u3 := x1.unfrozen 3
  have u4 := x1.unfrozen 4
  have u5 := x1.unfrozen 5
  go_wp2_with fail
  refine bodyPost_ret (v := .tuple #[.agg #[.bool vl, .int .i64 vn, .slice vad vk vcap, .slice tad tn tcap, .int .i64 q, .int .i64 1], .int .i64 0]) (by simp [results, Tryz.results82, go_sem, d0, d1, d2, d3, d4, d5, e0, e1, e2, e3, e4, e5, u0, u1, u2, u3, u4, u5]) rfl ?_
  have hBF : Below w.heap.size w (((((((W0).setCell ⟨w.heap.size + 1, 0, none⟩ (.bool vl)).setCell ⟨w.heap.size + 1, 1, none⟩ (.int .i64 vn)).setCell ⟨w.heap.size + 1, 2, none⟩ (.slice vad vk vcap)).setCell ⟨w.heap.size + 1, 3, none⟩ (.slice tad tn tcap)).setCell ⟨w.heap.size + 1, 4, none⟩ (.int .i64 q)).setCell ⟨w.heap.size + 1, 5, none⟩ (.int .i64 1)) := by
    refine (((((hB0.setCell ?_ _).setCell ?_ _).setCell ?_ _).setCell ?_ _).setCell ?_ _).setCell ?_ _
    all_goals (simp <;> omega)
  rw [HST.out]
  exact ⟨rfl, hBF⟩
set_option maxHeartbeats 4000000 in
theorem rcho_high (hl : IntsAt w (.slice lad ln lcap) l) (ht : IntsAt w (.slice tad tn tcap) tape) (hln : Hid (ln = l.length)) (htn : Hid (tn = tape.length)) (hm0 : 0 ≤ m) (hm1 : m ≤ 1000) (hq : q ≤ 1099511627776) (hn : tn ≤ 1099511627776) (h : q < ln) (hx0 : ¬ l.getD q 0 < 0) (hx1 : m < l.getD q 0) :
    Calls Tryz.prog 82 #[.agg #[.bool vl, .int .i64 vn, .slice vad vk vcap, .slice tad tn tcap, .int .i64 q, .int .i64 0], .slice lad ln lcap, .bool false, .int .i64 m] w (ChoR w vl vn vk vcap vad (.slice tad tn tcap) q (stC false l m (tape, q))) := by
  obtain ⟨lad', lcap', e1, _, _, hl64, hlc⟩ := hl.form
  obtain ⟨lb, loff, e2, hlb, hcc⟩ := hlc (by have := hln.out; omega)
  simp only [Value.slice.injEq] at e1
  obtain ⟨rfl, -, rfl⟩ := e1
  subst e2
  have cj := hcc q (by have := hln.out; omega)
  have p0 : (0 : Int) ≤ (q : Int) := by omega
  have p1 : (q : Int) < (ln : Int) := by omega
  have p2 : q < ln := by omega
  generalize hx : l.getD q 0 = x at *
  have HXV := Lib.hid hx
  clear hcc hlc hx hl64
  have HST : Hid (stC false l m (tape, q) = .error 1) := by
    show _ = _
    have hln0 := hln.out
    have hq : q < l.length := by omega
    unfold stC
    dsimp only
    rw [if_neg (by simp [hq]), HXV.out]
    rw [if_pos (by simp; omega)]
  clear hl ht
  go_enter Tryz.func82, Tryz.ntmps82
  go_upto_region 11 with (fail)
  generalize hW : (w.alloc (.cells #[.bool vl, .int .i64 vn, .slice vad vk vcap, .slice tad tn tcap, .int .i64 q, .int .i64 1] 110)).alloc (.cells #[.bool false, .int .i64 0, .slice none 0 0, .slice none 0 0, .int .i64 0, .int .i64 0] 110) = W0
  have hB0 : Below w.heap.size w W0 := by rw [← hW]; repeat (first | with_reducible assumption | with_reducible exact Below.refl _ _ | with_reducible apply Below.drew | (with_reducible refine Below.alloc ?_ (by first | omega | (simp only [zA, zS, zD, zN]; omega) | (dsimp only; omega) | (simp only [zA, zS, zD, zN]; dsimp only; omega)) _) | (with_reducible refine Below.setCell ?_ (by first | omega | (simp only [zA, zS, zD, zN]; omega) | (dsimp only; omega) | (simp only [zA, zS, zD, zN]; dsimp only; omega)) _) | (with_reducible apply below_drewN))
  have x0 : Blk W0 w.heap.size #[.bool vl, .int .i64 vn, .slice vad vk vcap, .slice tad tn tcap, .int .i64 q, .int .i64 1] 110 := by rw [← hW]; exact (Blk.new w #[.bool vl, .int .i64 vn, .slice vad vk vcap, .slice tad tn tcap, .int .i64 q, .int .i64 1] 110).alloc _
  have x1 : Blk W0 (w.heap.size + 1) #[.bool false, .int .i64 0, .slice none 0 0, .slice none 0 0, .int .i64 0, .int .i64 0] 110 := by rw [← hW]; simpa using Blk.new (w.alloc (.cells #[.bool vl, .int .i64 vn, .slice vad vk vcap, .slice tad tn tcap, .int .i64 q, .int .i64 1] 110)) #[.bool false, .int .i64 0, .slice none 0 0, .slice none 0 0, .int .i64 0, .int .i64 0] 110
  have hz0 : w.heap.size + 2 ≤ W0.heap.size := by have := x1.lt; omega
  have hlt0 : w.heap.size < W0.heap.size := by omega
  have hlt1 : w.heap.size + 1 < W0.heap.size := by omega
  clear hW
  have d0 := x0.cell 0
  have d1 := x0.cell 1
  have d2 := x0.cell 2
  have d3 := x0.cell 3
  have d4 := x0.cell 4
  have d5 := x0.cell 5
  simp only [List.getElem?_toArray, List.getElem?_cons_succ, List.getElem?_cons_zero] at d0 d1 d2 d3 d4 d5
  have e0 := x1.cell 0
  have e1 := x1.cell 1
  have e2 := x1.cell 2
  have e3 := x1.cell 3
  have e4 := x1.cell 4
  have e5 := x1.cell 5
  simp only [List.getElem?_toArray, List.getElem?_cons_succ, List.getElem?_cons_zero] at e0 e1 e2 e3 e4 e5
  have u0 := x1.unfrozen 0
  have u1 := x1.unfrozen 1
  have u2 := x1.unfrozen 2
  have u3 := x1.unfrozen 3
  have u4 := x1.unfrozen 4
  have u5 := x1.unfrozen 5
  go_wp2_with fail
  refine bodyPost_ret (v := .tuple #[.agg #[.bool vl, .int .i64 vn, .slice vad vk vcap, .slice tad tn tcap, .int .i64 q, .int .i64 1], .int .i64 0]) (by simp [results, Tryz.results82, go_sem, d0, d1, d2, d3, d4, d5, e0, e1, e2, e3, e4, e5, u0, u1, u2, u3, u4, u5]) rfl ?_
  have hBF : Below w.heap.size w (((((((W0).setCell ⟨w.heap.size + 1, 0, none⟩ (.bool vl)).setCell ⟨w.heap.size + 1, 1, none⟩ (.int .i64 vn)).setCell ⟨w.heap.size + 1, 2, none⟩ (.slice vad vk vcap)).setCell ⟨w.heap.size + 1, 3, none⟩ (.slice tad tn tcap)).setCell ⟨w.heap.size + 1, 4, none⟩ (.int .i64 q)).setCell ⟨w.heap.size + 1, 5, none⟩ (.int .i64 1)) := by
    refine (((((hB0.setCell ?_ _).setCell ?_ _).setCell ?_ _).setCell ?_ _).setCell ?_ _).setCell ?_ _
    all_goals (simp <;> omega)
  rw [HST.out]
  exact ⟨rfl, hBF⟩
set_option maxHeartbeats 4000000 in
theorem rcho_take (hl : IntsAt w (.slice lad ln lcap) l) (ht : IntsAt w (.slice tad tn tcap) tape) (hln : Hid (ln = l.length)) (htn : Hid (tn = tape.length)) (hm0 : 0 ≤ m) (hm1 : m ≤ 1000) (hq : q ≤ 1099511627776) (hn : tn ≤ 1099511627776) (h : q < ln) (hx0 : ¬ l.getD q 0 < 0) (hx1 : ¬ m < l.getD q 0) :
    Calls Tryz.prog 82 #[.agg #[.bool vl, .int .i64 vn, .slice vad vk vcap, .slice tad tn tcap, .int .i64 q, .int .i64 0], .slice lad ln lcap, .bool false, .int .i64 m] w (ChoR w vl vn vk vcap vad (.slice tad tn tcap) q (stC false l m (tape, q))) := by
  obtain ⟨lad', lcap', e1, _, _, hl64, hlc⟩ := hl.form
  obtain ⟨lb, loff, e2, hlb, hcc⟩ := hlc (by have := hln.out; omega)
  simp only [Value.slice.injEq] at e1
  obtain ⟨rfl, -, rfl⟩ := e1
  subst e2
  have cj := hcc q (by have := hln.out; omega)
  have p0 : (0 : Int) ≤ (q : Int) := by omega
  have p1 : (q : Int) < (ln : Int) := by omega
  have p2 : q < ln := by omega
  generalize hx : l.getD q 0 = x at *
  have HXV := Lib.hid hx
  clear hcc hlc hx hl64
  have HST : Hid (stC false l m (tape, q) = .ok (x, (tape ++ [x], q + 1))) := by
    show _ = _
    have hln0 := hln.out
    have hq : q < l.length := by omega
    unfold stC
    dsimp only
    rw [if_neg (by simp [hq]), HXV.out]
    rw [if_neg (by simp; omega)]
    simp
  have HXB : Hid (In64 (x)) := ⟨by omega, by omega⟩
  have IT0 := Lib.hid ht
  clear hl ht
  go_enter Tryz.func82, Tryz.ntmps82
  go_upto_region 13 with (fail)
  generalize hW : (w.alloc (.cells #[.bool vl, .int .i64 vn, .slice vad vk vcap, .slice tad tn tcap, .int .i64 ((q : Int) + 1), .int .i64 0] 110)).alloc (.cells #[.bool false, .int .i64 0, .slice none 0 0, .slice none 0 0, .int .i64 0, .int .i64 0] 110) = W0
  have hB0 : Below w.heap.size w W0 := by rw [← hW]; repeat (first | with_reducible assumption | with_reducible exact Below.refl _ _ | with_reducible apply Below.drew | (with_reducible refine Below.alloc ?_ (by first | omega | (simp only [zA, zS, zD, zN]; omega) | (dsimp only; omega) | (simp only [zA, zS, zD, zN]; dsimp only; omega)) _) | (with_reducible refine Below.setCell ?_ (by first | omega | (simp only [zA, zS, zD, zN]; omega) | (dsimp only; omega) | (simp only [zA, zS, zD, zN]; dsimp only; omega)) _) | (with_reducible apply below_drewN))
  have x0 : Blk W0 w.heap.size #[.bool vl, .int .i64 vn, .slice vad vk vcap, .slice tad tn tcap, .int .i64 ((q : Int) + 1), .int .i64 0] 110 := by rw [← hW]; exact (Blk.new w #[.bool vl, .int .i64 vn, .slice vad vk vcap, .slice tad tn tcap, .int .i64 ((q : Int) + 1), .int .i64 0] 110).alloc _
  have x1 : Blk W0 (w.heap.size + 1) #[.bool false, .int .i64 0, .slice none 0 0, .slice none 0 0, .int .i64 0, .int .i64 0] 110 := by rw [← hW]; simpa using Blk.new (w.alloc (.cells #[.bool vl, .int .i64 vn, .slice vad vk vcap, .slice tad tn tcap, .int .i64 ((q : Int) + 1), .int .i64 0] 110)) #[.bool false, .int .i64 0, .slice none 0 0, .slice none 0 0, .int .i64 0, .int .i64 0] 110
  have hz0 : w.heap.size + 2 ≤ W0.heap.size := by have := x1.lt; omega
  have hlt0 : w.heap.size < W0.heap.size := by omega
  have hlt1 : w.heap.size + 1 < W0.heap.size := by omega
  clear hW
  have IT : IntsAt W0 (.slice tad tn tcap) tape := IT0.out.ext hB0
  have hnn : tape.length ≤ 1099511627776 := by have := htn.out; omega
  have c3 := x0.cell 3
  simp only [List.getElem?_toArray, List.getElem?_cons_succ, List.getElem?_cons_zero] at c3
  go_upto_region 14 with (first | (at_builtin; refine append_ints (o := ⟨some 46, _, _, _, _, _⟩) rfl _ _ rfl rfl (OwnInts.lit _ W0.heap.size [] (Nat.le_refl _) (by decide)) rfl (IT.ext ((Below.refl _ _).alloc (Nat.le_refl _) _)) (by simp only [List.length_nil]; omega) (by simp) ?_; intro v5 w5 ho5 hg5 _; have hb5 := grown_lit hg5; have hz5 := hb5.size; rw [List.nil_append] at ho5; clear hg5) | (at_builtin; refine append_int1 (v := v5) (xs := tape) (o := ⟨some 49, _, _, _, _, _⟩) rfl _ _ rfl rfl (ho5.kept (by repeat (first | with_reducible assumption | with_reducible exact Below.refl _ _ | with_reducible apply Below.drew | (with_reducible refine Below.alloc ?_ (by first | omega | (simp only [zA, zS, zD, zN]; omega) | (dsimp only; omega) | (simp only [zA, zS, zD, zN]; dsimp only; omega)) _) | (with_reducible refine Below.setCell ?_ (by first | omega | (simp only [zA, zS, zD, zN]; omega) | (dsimp only; omega) | (simp only [zA, zS, zD, zN]; dsimp only; omega)) _) | (with_reducible apply below_drewN)))) rfl (Blk.new _ _ _) (by omega) (by simp; omega) ?_; intro gi capi w6 ho6 hg6 hat6 hlt6; have hlo5 := World.ownsRow.lt ho5; have hb6 : Below W0.heap.size W0 w6 := (hb5.alloc (by omega) _).grown hg6 (by simp; omega) (fun k hk => (hlo5 k hk).1); have y0 := x0.ext hb6; have y3 := y0.cell 3; have u3 := y0.unfrozen 3; simp only [List.getElem?_toArray, List.getElem?_cons_succ, List.getElem?_cons_zero] at y3))
  have y1 := x1.ext hb6
  have hbA : Below w.heap.size w w6 := hB0.trans (hb6.mono hB0.size)
  have hgi : W0.heap.size ≤ gi := by
    rcases hat6 with e | e
    · exact (hlo5 _ e).1
    · simp at e; omega
  have h64 : ∀ n ∈ tape ++ [x], In64 n := by
    intro n hn
    rcases List.mem_append.1 hn with h | h
    · exact IT0.out.1 n h
    · simp only [List.mem_singleton] at h
      subst h
      exact HXB.out
  clear y3 u3 c3 x0 x1
  generalize hW7 : w6.setCell ⟨w.heap.size, 3, none⟩ (.slice (some ⟨gi, 0, none⟩) (tape.length + 1) capi) = W7
  have hbB : Below w.heap.size w W7 := by rw [← hW7]; exact hbA.setCell (Nat.le_refl _) _
  have z0 : Blk W7 w.heap.size #[.bool vl, .int .i64 vn, .slice vad vk vcap, .slice (some ⟨gi, 0, none⟩) (tape.length + 1) capi, .int .i64 ((q : Int) + 1), .int .i64 0] 110 := by
    rw [← hW7]
    have := y0.set 3 (.slice (some ⟨gi, 0, none⟩) (tape.length + 1) capi)
    simpa using this
  have z1 : Blk W7 (w.heap.size + 1) #[.bool false, .int .i64 0, .slice none 0 0, .slice none 0 0, .int .i64 0, .int .i64 0] 110 := by rw [← hW7]; exact y1.oth w.heap.size 3 (by omega) _
  have hS7 : IntsS W7 (fun b => w.heap.size + 2 ≤ b) (.slice (some ⟨gi, 0, none⟩) (tape.length + 1) capi) (tape ++ [x]) :=
    IntsS.reads.keep (ho6.s h64) (by rw [← hW7, size_setCell]; exact Nat.le_refl _) (fun b hb hl => ⟨by simp [Value.ownBlock] at hb; omega, by rw [← hW7]; exact Below.heap_setCell _ _ _ _ (by simp [Value.ownBlock] at hb; dsimp only; omega)⟩)
  clear hW7 y0 y1 hbA
  have d0 := z0.cell 0
  have d1 := z0.cell 1
  have d2 := z0.cell 2
  have d3 := z0.cell 3
  have d4 := z0.cell 4
  have d5 := z0.cell 5
  simp only [List.getElem?_toArray, List.getElem?_cons_succ, List.getElem?_cons_zero] at d0 d1 d2 d3 d4 d5
  have e0 := z1.cell 0
  have e1 := z1.cell 1
  have e2 := z1.cell 2
  have e3 := z1.cell 3
  have e4 := z1.cell 4
  have e5 := z1.cell 5
  simp only [List.getElem?_toArray, List.getElem?_cons_succ, List.getElem?_cons_zero] at e0 e1 e2 e3 e4 e5
  have u0 := z1.unfrozen 0
  have u1 := z1.unfrozen 1
  have u2 := z1.unfrozen 2
  have u3 := z1.unfrozen 3
  have u4 := z1.unfrozen 4
  have u5 := z1.unfrozen 5
  go_wp2_with fail
  refine bodyPost_ret (v := .tuple #[.agg #[.bool vl, .int .i64 vn, .slice vad vk vcap, .slice (some ⟨gi, 0, none⟩) (tape.length + 1) capi, .int .i64 ((q : Int) + 1), .int .i64 0], .int .i64 (x)]) (by simp [results, Tryz.results82, go_sem, d0, d1, d2, d3, d4, d5, e0, e1, e2, e3, e4, e5, u0, u1, u2, u3, u4, u5]) rfl ?_
  have hBF : Below w.heap.size w (((((((W7).setCell ⟨w.heap.size + 1, 0, none⟩ (.bool vl)).setCell ⟨w.heap.size + 1, 1, none⟩ (.int .i64 vn)).setCell ⟨w.heap.size + 1, 2, none⟩ (.slice vad vk vcap)).setCell ⟨w.heap.size + 1, 3, none⟩ (.slice (some ⟨gi, 0, none⟩) (tape.length + 1) capi)).setCell ⟨w.heap.size + 1, 4, none⟩ (.int .i64 ((q : Int) + 1))).setCell ⟨w.heap.size + 1, 5, none⟩ (.int .i64 0)) := by
    refine (((((hbB.setCell ?_ _).setCell ?_ _).setCell ?_ _).setCell ?_ _).setCell ?_ _).setCell ?_ _
    all_goals (simp <;> omega)
  have hSF : IntsS (((((((W7).setCell ⟨w.heap.size + 1, 0, none⟩ (.bool vl)).setCell ⟨w.heap.size + 1, 1, none⟩ (.int .i64 vn)).setCell ⟨w.heap.size + 1, 2, none⟩ (.slice vad vk vcap)).setCell ⟨w.heap.size + 1, 3, none⟩ (.slice (some ⟨gi, 0, none⟩) (tape.length + 1) capi)).setCell ⟨w.heap.size + 1, 4, none⟩ (.int .i64 ((q : Int) + 1))).setCell ⟨w.heap.size + 1, 5, none⟩ (.int .i64 0)) (fun b => w.heap.size ≤ b) (.slice (some ⟨gi, 0, none⟩) (tape.length + 1) capi) (tape ++ [x]) :=
    IntsS.reads.keep hS7 (by simp only [size_setCell]; exact Nat.le_refl _) (fun b hb hl => ⟨by omega, by
      rw [Below.heap_setCell _ _ _ _ (by dsimp only; omega), Below.heap_setCell _ _ _ _ (by dsimp only; omega), Below.heap_setCell _ _ _ _ (by dsimp only; omega), Below.heap_setCell _ _ _ _ (by dsimp only; omega), Below.heap_setCell _ _ _ _ (by dsimp only; omega), Below.heap_setCell _ _ _ _ (by dsimp only; omega)]⟩)
  rw [HST.out]
  exact ⟨⟨_, by go_num, hSF⟩, hBF⟩
set_option maxHeartbeats 4000000 in
theorem rcho_zero (hl : IntsAt w (.slice lad ln lcap) l) (ht : IntsAt w (.slice tad tn tcap) tape) (hln : Hid (ln = l.length)) (htn : Hid (tn = tape.length)) (hm0 : 0 ≤ m) (hm1 : m ≤ 1000) (hq : q ≤ 1099511627776) (hn : tn ≤ 1099511627776) (h : ¬ q < ln) :
    Calls Tryz.prog 82 #[.agg #[.bool vl, .int .i64 vn, .slice vad vk vcap, .slice tad tn tcap, .int .i64 q, .int .i64 0], .slice lad ln lcap, .bool true, .int .i64 m] w (ChoR w vl vn vk vcap vad (.slice tad tn tcap) q (stC true l m (tape, q))) := by
  have p1 : ¬ (q : Int) < (ln : Int) := by omega
  have p2 : ¬ q < ln := by omega
  have m2 : ¬ m < 0 := by omega
  have HST : Hid (stC true l m (tape, q) = .ok (0, (tape ++ [0], q + 1))) := by
    show _ = _
    have hln0 := hln.out
    have hq : l.length ≤ q := by omega
    unfold stC
    dsimp only
    rw [if_neg (by simp)]
    have e0 : l.getD q 0 = 0 := by simp [List.getD_eq_getElem?_getD, List.getElem?_eq_none hq]
    rw [e0]
    have e : max 0 (min 0 m) = 0 := by omega
    simp only [if_true, e]
    rw [if_neg (by omega)]
  have HXB : Hid (In64 (0)) := ⟨by omega, by omega⟩
  have IT0 := Lib.hid ht
  clear hl ht
  go_enter Tryz.func82, Tryz.ntmps82
  go_upto_region 13 with (fail)
  generalize hW : (w.alloc (.cells #[.bool vl, .int .i64 vn, .slice vad vk vcap, .slice tad tn tcap, .int .i64 ((q : Int) + 1), .int .i64 0] 110)).alloc (.cells #[.bool false, .int .i64 0, .slice none 0 0, .slice none 0 0, .int .i64 0, .int .i64 0] 110) = W0
  have hB0 : Below w.heap.size w W0 := by rw [← hW]; repeat (first | with_reducible assumption | with_reducible exact Below.refl _ _ | with_reducible apply Below.drew | (with_reducible refine Below.alloc ?_ (by first | omega | (simp only [zA, zS, zD, zN]; omega) | (dsimp only; omega) | (simp only [zA, zS, zD, zN]; dsimp only; omega)) _) | (with_reducible refine Below.setCell ?_ (by first | omega | (simp only [zA, zS, zD, zN]; omega) | (dsimp only; omega) | (simp only [zA, zS, zD, zN]; dsimp only; omega)) _) | (with_reducible apply below_drewN))
  have x0 : Blk W0 w.heap.size #[.bool vl, .int .i64 vn, .slice vad vk vcap, .slice tad tn tcap, .int .i64 ((q : Int) + 1), .int .i64 0] 110 := by rw [← hW]; exact (Blk.new w #[.bool vl, .int .i64 vn, .slice vad vk vcap, .slice tad tn tcap, .int .i64 ((q : Int) + 1), .int .i64 0] 110).alloc _
  have x1 : Blk W0 (w.heap.size + 1) #[.bool false, .int .i64 0, .slice none 0 0, .slice none 0 0, .int .i64 0, .int .i64 0] 110 := by rw [← hW]; simpa using Blk.new (w.alloc (.cells #[.bool vl, .int .i64 vn, .slice vad vk vcap, .slice tad tn tcap, .int .i64 ((q : Int) + 1), .int .i64 0] 110)) #[.bool false, .int .i64 0, .slice none 0 0, .slice none 0 0, .int .i64 0, .int .i64 0] 110
  have hz0 : w.heap.size + 2 ≤ W0.heap.size := by have := x1.lt; omega
  have hlt0 : w.heap.size < W0.heap.size := by omega
  have hlt1 : w.heap.size + 1 < W0.heap.size := by omega
  clear hW
  have IT : IntsAt W0 (.slice tad tn tcap) tape := IT0.out.ext hB0
  have hnn : tape.length ≤ 1099511627776 := by have := htn.out; omega
  have c3 := x0.cell 3
  simp only [List.getElem?_toArray, List.getElem?_cons_succ, List.getElem?_cons_zero] at c3
  go_upto_region 14 with (first | (at_builtin; refine append_ints (o := ⟨some 46, _, _, _, _, _⟩) rfl _ _ rfl rfl (OwnInts.lit _ W0.heap.size [] (Nat.le_refl _) (by decide)) rfl (IT.ext ((Below.refl _ _).alloc (Nat.le_refl _) _)) (by simp only [List.length_nil]; omega) (by simp) ?_; intro v5 w5 ho5 hg5 _; have hb5 := grown_lit hg5; have hz5 := hb5.size; rw [List.nil_append] at ho5; clear hg5) | (at_builtin; refine append_int1 (v := v5) (xs := tape) (o := ⟨some 49, _, _, _, _, _⟩) rfl _ _ rfl rfl (ho5.kept (by repeat (first | with_reducible assumption | with_reducible exact Below.refl _ _ | with_reducible apply Below.drew | (with_reducible refine Below.alloc ?_ (by first | omega | (simp only [zA, zS, zD, zN]; omega) | (dsimp only; omega) | (simp only [zA, zS, zD, zN]; dsimp only; omega)) _) | (with_reducible refine Below.setCell ?_ (by first | omega | (simp only [zA, zS, zD, zN]; omega) | (dsimp only; omega) | (simp only [zA, zS, zD, zN]; dsimp only; omega)) _) | (with_reducible apply below_drewN)))) rfl (Blk.new _ _ _) (by omega) (by simp; omega) ?_; intro gi capi w6 ho6 hg6 hat6 hlt6; have hlo5 := World.ownsRow.lt ho5; have hb6 : Below W0.heap.size W0 w6 := (hb5.alloc (by omega) _).grown hg6 (by simp; omega) (fun k hk => (hlo5 k hk).1); have y0 := x0.ext hb6; have y3 := y0.cell 3; have u3 := y0.unfrozen 3; simp only [List.getElem?_toArray, List.getElem?_cons_succ, List.getElem?_cons_zero] at y3))
  have y1 := x1.ext hb6
  have hbA : Below w.heap.size w w6 := hB0.trans (hb6.mono hB0.size)
  have hgi : W0.heap.size ≤ gi := by
    rcases hat6 with e | e
    · exact (hlo5 _ e).1
    · simp at e; omega
  have h64 : ∀ n ∈ tape ++ [0], In64 n := by
    intro n hn
    rcases List.mem_append.1 hn with h | h
    · exact IT0.out.1 n h
    · simp only [List.mem_singleton] at h
      subst h
      exact HXB.out
  clear y3 u3 c3 x0 x1
  generalize hW7 : w6.setCell ⟨w.heap.size, 3, none⟩ (.slice (some ⟨gi, 0, none⟩) (tape.length + 1) capi) = W7
  have hbB : Below w.heap.size w W7 := by rw [← hW7]; exact hbA.setCell (Nat.le_refl _) _
  have z0 : Blk W7 w.heap.size #[.bool vl, .int .i64 vn, .slice vad vk vcap, .slice (some ⟨gi, 0, none⟩) (tape.length + 1) capi, .int .i64 ((q : Int) + 1), .int .i64 0] 110 := by
    rw [← hW7]
    have := y0.set 3 (.slice (some ⟨gi, 0, none⟩) (tape.length + 1) capi)
    simpa using this
  have z1 : Blk W7 (w.heap.size + 1) #[.bool false, .int .i64 0, .slice none 0 0, .slice none 0 0, .int .i64 0, .int .i64 0] 110 := by rw [← hW7]; exact y1.oth w.heap.size 3 (by omega) _
  have hS7 : IntsS W7 (fun b => w.heap.size + 2 ≤ b) (.slice (some ⟨gi, 0, none⟩) (tape.length + 1) capi) (tape ++ [0]) :=
    IntsS.reads.keep (ho6.s h64) (by rw [← hW7, size_setCell]; exact Nat.le_refl _) (fun b hb hl => ⟨by simp [Value.ownBlock] at hb; omega, by rw [← hW7]; exact Below.heap_setCell _ _ _ _ (by simp [Value.ownBlock] at hb; dsimp only; omega)⟩)
  clear hW7 y0 y1 hbA
  have d0 := z0.cell 0
  have d1 := z0.cell 1
  have d2 := z0.cell 2
  have d3 := z0.cell 3
  have d4 := z0.cell 4
  have d5 := z0.cell 5
  simp only [List.getElem?_toArray, List.getElem?_cons_succ, List.getElem?_cons_zero] at d0 d1 d2 d3 d4 d5
  have e0 := z1.cell 0
  have e1 := z1.cell 1
  have e2 := z1.cell 2
  have e3 := z1.cell 3
  have e4 := z1.cell 4
  have e5 := z1.cell 5
  simp only [List.getElem?_toArray, List.getElem?_cons_succ, List.getElem?_cons_zero] at e0 e1 e2 e3 e4 e5
  have u0 := z1.unfrozen 0
  have u1 := z1.unfrozen 1
  have u2 := z1.unfrozen 2
  have u3 := z1.unfrozen 3
  have u4 := z1.unfrozen 4
  have u5 := z1.unfrozen 5
  go_wp2_with fail
  refine bodyPost_ret (v := .tuple #[.agg #[.bool vl, .int .i64 vn, .slice vad vk vcap, .slice (some ⟨gi, 0, none⟩) (tape.length + 1) capi, .int .i64 ((q : Int) + 1), .int .i64 0], .int .i64 (0)]) (by simp [results, Tryz.results82, go_sem, d0, d1, d2, d3, d4, d5, e0, e1, e2, e3, e4, e5, u0, u1, u2, u3, u4, u5]) rfl ?_
  have hBF : Below w.heap.size w (((((((W7).setCell ⟨w.heap.size + 1, 0, none⟩ (.bool vl)).setCell ⟨w.heap.size + 1, 1, none⟩ (.int .i64 vn)).setCell ⟨w.heap.size + 1, 2, none⟩ (.slice vad vk vcap)).setCell ⟨w.heap.size + 1, 3, none⟩ (.slice (some ⟨gi, 0, none⟩) (tape.length + 1) capi)).setCell ⟨w.heap.size + 1, 4, none⟩ (.int .i64 ((q : Int) + 1))).setCell ⟨w.heap.size + 1, 5, none⟩ (.int .i64 0)) := by
    refine (((((hbB.setCell ?_ _).setCell ?_ _).setCell ?_ _).setCell ?_ _).setCell ?_ _).setCell ?_ _
    all_goals (simp <;> omega)
  have hSF : IntsS (((((((W7).setCell ⟨w.heap.size + 1, 0, none⟩ (.bool vl)).setCell ⟨w.heap.size + 1, 1, none⟩ (.int .i64 vn)).setCell ⟨w.heap.size + 1, 2, none⟩ (.slice vad vk vcap)).setCell ⟨w.heap.size + 1, 3, none⟩ (.slice (some ⟨gi, 0, none⟩) (tape.length + 1) capi)).setCell ⟨w.heap.size + 1, 4, none⟩ (.int .i64 ((q : Int) + 1))).setCell ⟨w.heap.size + 1, 5, none⟩ (.int .i64 0)) (fun b => w.heap.size ≤ b) (.slice (some ⟨gi, 0, none⟩) (tape.length + 1) capi) (tape ++ [0]) :=
    IntsS.reads.keep hS7 (by simp only [size_setCell]; exact Nat.le_refl _) (fun b hb hl => ⟨by omega, by
      rw [Below.heap_setCell _ _ _ _ (by dsimp only; omega), Below.heap_setCell _ _ _ _ (by dsimp only; omega), Below.heap_setCell _ _ _ _ (by dsimp only; omega), Below.heap_setCell _ _ _ _ (by dsimp only; omega), Below.heap_setCell _ _ _ _ (by dsimp only; omega), Below.heap_setCell _ _ _ _ (by dsimp only; omega)]⟩)
  rw [HST.out]
  exact ⟨⟨_, by go_num, hSF⟩, hBF⟩
set_option maxHeartbeats 4000000 in
theorem rcho_mlow (hl : IntsAt w (.slice lad ln lcap) l) (ht : IntsAt w (.slice tad tn tcap) tape) (hln : Hid (ln = l.length)) (htn : Hid (tn = tape.length)) (hm0 : 0 ≤ m) (hm1 : m ≤ 1000) (hq : q ≤ 1099511627776) (hn : tn ≤ 1099511627776) (h : q < ln) (hx0 : l.getD q 0 < 0) :
    Calls Tryz.prog 82 #[.agg #[.bool vl, .int .i64 vn, .slice vad vk vcap, .slice tad tn tcap, .int .i64 q, .int .i64 0], .slice lad ln lcap, .bool true, .int .i64 m] w (ChoR w vl vn vk vcap vad (.slice tad tn tcap) q (stC true l m (tape, q))) := by
  obtain ⟨lad', lcap', e1, _, _, hl64, hlc⟩ := hl.form
  obtain ⟨lb, loff, e2, hlb, hcc⟩ := hlc (by have := hln.out; omega)
  simp only [Value.slice.injEq] at e1
  obtain ⟨rfl, -, rfl⟩ := e1
  subst e2
  have cj := hcc q (by have := hln.out; omega)
  have p0 : (0 : Int) ≤ (q : Int) := by omega
  have p1 : (q : Int) < (ln : Int) := by omega
  have p2 : q < ln := by omega
  generalize hx : l.getD q 0 = x at *
  have HXV := Lib.hid hx
  clear hcc hlc hx hl64
  have q1 : x < m := by omega
  have q2 : ¬ m < x := by omega
  have q4 : x ≤ m := by omega
  have q3 : ¬ 0 < x := by omega
  have m2 : ¬ m < 0 := by omega
  have HST : Hid (stC true l m (tape, q) = .ok (0, (tape ++ [0], q + 1))) := by
    show _ = _
    have hln0 := hln.out
    have hq : q < l.length := by omega
    unfold stC
    dsimp only
    rw [if_neg (by simp [hq]), HXV.out]
    have e : max 0 (min x m) = 0 := by omega
    simp only [if_true, e]
    rw [if_neg (by omega)]
  have HXB : Hid (In64 (0)) := ⟨by omega, by omega⟩
  have IT0 := Lib.hid ht
  clear hl ht
  go_enter Tryz.func82, Tryz.ntmps82
  go_upto_region 13 with (fail)
  generalize hW : (w.alloc (.cells #[.bool vl, .int .i64 vn, .slice vad vk vcap, .slice tad tn tcap, .int .i64 ((q : Int) + 1), .int .i64 0] 110)).alloc (.cells #[.bool false, .int .i64 0, .slice none 0 0, .slice none 0 0, .int .i64 0, .int .i64 0] 110) = W0
  have hB0 : Below w.heap.size w W0 := by rw [← hW]; repeat (first | with_reducible assumption | with_reducible exact Below.refl _ _ | with_reducible apply Below.drew | (with_reducible refine Below.alloc ?_ (by first | omega | (simp only [zA, zS, zD, zN]; omega) | (dsimp only; omega) | (simp only [zA, zS, zD, zN]; dsimp only; omega)) _) | (with_reducible refine Below.setCell ?_ (by first | omega | (simp only [zA, zS, zD, zN]; omega) | (dsimp only; omega) | (simp only [zA, zS, zD, zN]; dsimp only; omega)) _) | (with_reducible apply below_drewN))
  have x0 : Blk W0 w.heap.size #[.bool vl, .int .i64 vn, .slice vad vk vcap, .slice tad tn tcap, .int .i64 ((q : Int) + 1), .int .i64 0] 110 := by rw [← hW]; exact (Blk.new w #[.bool vl, .int .i64 vn, .slice vad vk vcap, .slice tad tn tcap, .int .i64 ((q : Int) + 1), .int .i64 0] 110).alloc _
  have x1 : Blk W0 (w.heap.size + 1) #[.bool false, .int .i64 0, .slice none 0 0, .slice none 0 0, .int .i64 0, .int .i64 0] 110 := by rw [← hW]; simpa using Blk.new (w.alloc (.cells #[.bool vl, .int .i64 vn, .slice vad vk vcap, .slice tad tn tcap, .int .i64 ((q : Int) + 1), .int .i64 0] 110)) #[.bool false, .int .i64 0, .slice none 0 0, .slice none 0 0, .int .i64 0, .int .i64 0] 110
  have hz0 : w.heap.size + 2 ≤ W0.heap.size := by have := x1.lt; omega
  have hlt0 : w.heap.size < W0.heap.size := by omega
  have hlt1 : w.heap.size + 1 < W0.heap.size := by omega
  clear hW
  have IT : IntsAt W0 (.slice tad tn tcap) tape := IT0.out.ext hB0
  have hnn : tape.length ≤ 1099511627776 := by have := htn.out; omega
  have c3 := x0.cell 3
  simp only [List.getElem?_toArray, List.getElem?_cons_succ, List.getElem?_cons_zero] at c3
  go_upto_region 14 with (first | (at_builtin; refine append_ints (o := ⟨some 46, _, _, _, _, _⟩) rfl _ _ rfl rfl (OwnInts.lit _ W0.heap.size [] (Nat.le_refl _) (by decide)) rfl (IT.ext ((Below.refl _ _).alloc (Nat.le_refl _) _)) (by simp only [List.length_nil]; omega) (by simp) ?_; intro v5 w5 ho5 hg5 _; have hb5 := grown_lit hg5; have hz5 := hb5.size; rw [List.nil_append] at ho5; clear hg5) | (at_builtin; refine append_int1 (v := v5) (xs := tape) (o := ⟨some 49, _, _, _, _, _⟩) rfl _ _ rfl rfl (ho5.kept (by repeat (first | with_reducible assumption | with_reducible exact Below.refl _ _ | with_reducible apply Below.drew | (with_reducible refine Below.alloc ?_ (by first | omega | (simp only [zA, zS, zD, zN]; omega) | (dsimp only; omega) | (simp only [zA, zS, zD, zN]; dsimp only; omega)) _) | (with_reducible refine Below.setCell ?_ (by first | omega | (simp only [zA, zS, zD, zN]; omega) | (dsimp only; omega) | (simp only [zA, zS, zD, zN]; dsimp only; omega)) _) | (with_reducible apply below_drewN)))) rfl (Blk.new _ _ _) (by omega) (by simp; omega) ?_; intro gi capi w6 ho6 hg6 hat6 hlt6; have hlo5 := World.ownsRow.lt ho5; have hb6 : Below W0.heap.size W0 w6 := (hb5.alloc (by omega) _).grown hg6 (by simp; omega) (fun k hk => (hlo5 k hk).1); have y0 := x0.ext hb6; have y3 := y0.cell 3; have u3 := y0.unfrozen 3; simp only [List.getElem?_toArray, List.getElem?_cons_succ, List.getElem?_cons_zero] at y3))
  have y1 := x1.ext hb6
  have hbA : Below w.heap.size w w6 := hB0.trans (hb6.mono hB0.size)
  have hgi : W0.heap.size ≤ gi := by
    rcases hat6 with e | e
    · exact (hlo5 _ e).1
    · simp at e; omega
  have h64 : ∀ n ∈ tape ++ [0], In64 n := by
    intro n hn
    rcases List.mem_append.1 hn with h | h
    · exact IT0.out.1 n h
    · simp only [List.mem_singleton] at h
      subst h
      exact HXB.out
  clear y3 u3 c3 x0 x1
  generalize hW7 : w6.setCell ⟨w.heap.size, 3, none⟩ (.slice (some ⟨gi, 0, none⟩) (tape.length + 1) capi) = W7
  have hbB : Below w.heap.size w W7 := by rw [← hW7]; exact hbA.setCell (Nat.le_refl _) _
  have z0 : Blk W7 w.heap.size #[.bool vl, .int .i64 vn, .slice vad vk vcap, .slice (some ⟨gi, 0, none⟩) (tape.length + 1) capi, .int .i64 ((q : Int) + 1), .int .i64 0] 110 := by
    rw [← hW7]
    have := y0.set 3 (.slice (some ⟨gi, 0, none⟩) (tape.length + 1) capi)
    simpa using this
  have z1 : Blk W7 (w.heap.size + 1) #[.bool false, .int .i64 0, .slice none 0 0, .slice none 0 0, .int .i64 0, .int .i64 0] 110 := by rw [← hW7]; exact y1.oth w.heap.size 3 (by omega) _
  have hS7 : IntsS W7 (fun b => w.heap.size + 2 ≤ b) (.slice (some ⟨gi, 0, none⟩) (tape.length + 1) capi) (tape ++ [0]) :=
    IntsS.reads.keep (ho6.s h64) (by rw [← hW7, size_setCell]; exact Nat.le_refl _) (fun b hb hl => ⟨by simp [Value.ownBlock] at hb; omega, by rw [← hW7]; exact Below.heap_setCell _ _ _ _ (by simp [Value.ownBlock] at hb; dsimp only; omega)⟩)
  clear hW7 y0 y1 hbA
  have d0 := z0.cell 0
  have d1 := z0.cell 1
  have d2 := z0.cell 2
  have d3 := z0.cell 3
  have d4 := z0.cell 4
  have d5 := z0.cell 5
  simp only [List.getElem?_toArray, List.getElem?_cons_succ, List.getElem?_cons_zero] at d0 d1 d2 d3 d4 d5
  have e0 := z1.cell 0
  have e1 := z1.cell 1
  have e2 := z1.cell 2
  have e3 := z1.cell 3
  have e4 := z1.cell 4
  have e5 := z1.cell 5
  simp only [List.getElem?_toArray, List.getElem?_cons_succ, List.getElem?_cons_zero] at e0 e1 e2 e3 e4 e5
  have u0 := z1.unfrozen 0
  have u1 := z1.unfrozen 1
  have u2 := z1.unfrozen 2
  have u3 := z1.unfrozen 3
  have u4 := z1.unfrozen 4
  have u5 := z1.unfrozen 5
  go_wp2_with fail
  refine bodyPost_ret (v := .tuple #[.agg #[.bool vl, .int .i64 vn, .slice vad vk vcap, .slice (some ⟨gi, 0, none⟩) (tape.length + 1) capi, .int .i64 ((q : Int) + 1), .int .i64 0], .int .i64 (0)]) (by simp [results, Tryz.results82, go_sem, d0, d1, d2, d3, d4, d5, e0, e1, e2, e3, e4, e5, u0, u1, u2, u3, u4, u5]) rfl ?_
  have hBF : Below w.heap.size w (((((((W7).setCell ⟨w.heap.size + 1, 0, none⟩ (.bool vl)).setCell ⟨w.heap.size + 1, 1, none⟩ (.int .i64 vn)).setCell ⟨w.heap.size + 1, 2, none⟩ (.slice vad vk vcap)).setCell ⟨w.heap.size + 1, 3, none⟩ (.slice (some ⟨gi, 0, none⟩) (tape.length + 1) capi)).setCell ⟨w.heap.size + 1, 4, none⟩ (.int .i64 ((q : Int) + 1))).setCell ⟨w.heap.size + 1, 5, none⟩ (.int .i64 0)) := by
    refine (((((hbB.setCell ?_ _).setCell ?_ _).setCell ?_ _).setCell ?_ _).setCell ?_ _).setCell ?_ _
    all_goals (simp <;> omega)
  have hSF : IntsS (((((((W7).setCell ⟨w.heap.size + 1, 0, none⟩ (.bool vl)).setCell ⟨w.heap.size + 1, 1, none⟩ (.int .i64 vn)).setCell ⟨w.heap.size + 1, 2, none⟩ (.slice vad vk vcap)).setCell ⟨w.heap.size + 1, 3, none⟩ (.slice (some ⟨gi, 0, none⟩) (tape.length + 1) capi)).setCell ⟨w.heap.size + 1, 4, none⟩ (.int .i64 ((q : Int) + 1))).setCell ⟨w.heap.size + 1, 5, none⟩ (.int .i64 0)) (fun b => w.heap.size ≤ b) (.slice (some ⟨gi, 0, none⟩) (tape.length + 1) capi) (tape ++ [0]) :=
    IntsS.reads.keep hS7 (by simp only [size_setCell]; exact Nat.le_refl _) (fun b hb hl => ⟨by omega, by
      rw [Below.heap_setCell _ _ _ _ (by dsimp only; omega), Below.heap_setCell _ _ _ _ (by dsimp only; omega), Below.heap_setCell _ _ _ _ (by dsimp only; omega), Below.heap_setCell _ _ _ _ (by dsimp only; omega), Below.heap_setCell _ _ _ _ (by dsimp only; omega), Below.heap_setCell _ _ _ _ (by dsimp only; omega)]⟩)
  rw [HST.out]
  exact ⟨⟨_, by go_num, hSF⟩, hBF⟩
set_option maxHeartbeats 4000000 in
theorem rcho_mhigh (hl : IntsAt w (.slice lad ln lcap) l) (ht : IntsAt w (.slice tad tn tcap) tape) (hln : Hid (ln = l.length)) (htn : Hid (tn = tape.length)) (hm0 : 0 ≤ m) (hm1 : m ≤ 1000) (hq : q ≤ 1099511627776) (hn : tn ≤ 1099511627776) (h : q < ln) (hx0 : ¬ l.getD q 0 < 0) (hx1 : m < l.getD q 0) (hmp : 0 < m) :
    Calls Tryz.prog 82 #[.agg #[.bool vl, .int .i64 vn, .slice vad vk vcap, .slice tad tn tcap, .int .i64 q, .int .i64 0], .slice lad ln lcap, .bool true, .int .i64 m] w (ChoR w vl vn vk vcap vad (.slice tad tn tcap) q (stC true l m (tape, q))) := by
  obtain ⟨lad', lcap', e1, _, _, hl64, hlc⟩ := hl.form
  obtain ⟨lb, loff, e2, hlb, hcc⟩ := hlc (by have := hln.out; omega)
  simp only [Value.slice.injEq] at e1
  obtain ⟨rfl, -, rfl⟩ := e1
  subst e2
  have cj := hcc q (by have := hln.out; omega)
  have p0 : (0 : Int) ≤ (q : Int) := by omega
  have p1 : (q : Int) < (ln : Int) := by omega
  have p2 : q < ln := by omega
  generalize hx : l.getD q 0 = x at *
  have HXV := Lib.hid hx
  clear hcc hlc hx hl64
  have m2 : ¬ m < 0 := by omega
  have m3 : ¬ x < m := by omega
  have m4 : ¬ x ≤ m := by omega
  have HST : Hid (stC true l m (tape, q) = .ok (m, (tape ++ [m], q + 1))) := by
    show _ = _
    have hln0 := hln.out
    have hq : q < l.length := by omega
    unfold stC
    dsimp only
    rw [if_neg (by simp [hq]), HXV.out]
    have e : max 0 (min x m) = m := by omega
    simp only [if_true, e]
    rw [if_neg (by omega)]
  have HXB : Hid (In64 (m)) := ⟨by omega, by omega⟩
  have IT0 := Lib.hid ht
  clear hl ht
  go_enter Tryz.func82, Tryz.ntmps82
  go_upto_region 13 with (fail)
  generalize hW : (w.alloc (.cells #[.bool vl, .int .i64 vn, .slice vad vk vcap, .slice tad tn tcap, .int .i64 ((q : Int) + 1), .int .i64 0] 110)).alloc (.cells #[.bool false, .int .i64 0, .slice none 0 0, .slice none 0 0, .int .i64 0, .int .i64 0] 110) = W0
  have hB0 : Below w.heap.size w W0 := by rw [← hW]; repeat (first | with_reducible assumption | with_reducible exact Below.refl _ _ | with_reducible apply Below.drew | (with_reducible refine Below.alloc ?_ (by first | omega | (simp only [zA, zS, zD, zN]; omega) | (dsimp only; omega) | (simp only [zA, zS, zD, zN]; dsimp only; omega)) _) | (with_reducible refine Below.setCell ?_ (by first | omega | (simp only [zA, zS, zD, zN]; omega) | (dsimp only; omega) | (simp only [zA, zS, zD, zN]; dsimp only; omega)) _) | (with_reducible apply below_drewN))
  have x0 : Blk W0 w.heap.size #[.bool vl, .int .i64 vn, .slice vad vk vcap, .slice tad tn tcap, .int .i64 ((q : Int) + 1), .int .i64 0] 110 := by rw [← hW]; exact (Blk.new w #[.bool vl, .int .i64 vn, .slice vad vk vcap, .slice tad tn tcap, .int .i64 ((q : Int) + 1), .int .i64 0] 110).alloc _
  have x1 : Blk W0 (w.heap.size + 1) #[.bool false, .int .i64 0, .slice none 0 0, .slice none 0 0, .int .i64 0, .int .i64 0] 110 := by rw [← hW]; simpa using Blk.new (w.alloc (.cells #[.bool vl, .int .i64 vn, .slice vad vk vcap, .slice tad tn tcap, .int .i64 ((q : Int) + 1), .int .i64 0] 110)) #[.bool false, .int .i64 0, .slice none 0 0, .slice none 0 0, .int .i64 0, .int .i64 0] 110
  have hz0 : w.heap.size + 2 ≤ W0.heap.size := by have := x1.lt; omega
  have hlt0 : w.heap.size < W0.heap.size := by omega
  have hlt1 : w.heap.size + 1 < W0.heap.size := by omega
  clear hW
  have IT : IntsAt W0 (.slice tad tn tcap) tape := IT0.out.ext hB0
  have hnn : tape.length ≤ 1099511627776 := by have := htn.out; omega
  have c3 := x0.cell 3
  simp only [List.getElem?_toArray, List.getElem?_cons_succ, List.getElem?_cons_zero] at c3
  go_upto_region 14 with (first | (at_builtin; refine append_ints (o := ⟨some 46, _, _, _, _, _⟩) rfl _ _ rfl rfl (OwnInts.lit _ W0.heap.size [] (Nat.le_refl _) (by decide)) rfl (IT.ext ((Below.refl _ _).alloc (Nat.le_refl _) _)) (by simp only [List.length_nil]; omega) (by simp) ?_; intro v5 w5 ho5 hg5 _; have hb5 := grown_lit hg5; have hz5 := hb5.size; rw [List.nil_append] at ho5; clear hg5) | (at_builtin; refine append_int1 (v := v5) (xs := tape) (o := ⟨some 49, _, _, _, _, _⟩) rfl _ _ rfl rfl (ho5.kept (by repeat (first | with_reducible assumption | with_reducible exact Below.refl _ _ | with_reducible apply Below.drew | (with_reducible refine Below.alloc ?_ (by first | omega | (simp only [zA, zS, zD, zN]; omega) | (dsimp only; omega) | (simp only [zA, zS, zD, zN]; dsimp only; omega)) _) | (with_reducible refine Below.setCell ?_ (by first | omega | (simp only [zA, zS, zD, zN]; omega) | (dsimp only; omega) | (simp only [zA, zS, zD, zN]; dsimp only; omega)) _) | (with_reducible apply below_drewN)))) rfl (Blk.new _ _ _) (by omega) (by simp; omega) ?_; intro gi capi w6 ho6 hg6 hat6 hlt6; have hlo5 := World.ownsRow.lt ho5; have hb6 : Below W0.heap.size W0 w6 := (hb5.alloc (by omega) _).grown hg6 (by simp; omega) (fun k hk => (hlo5 k hk).1); have y0 := x0.ext hb6; have y3 := y0.cell 3; have u3 := y0.unfrozen 3; simp only [List.getElem?_toArray, List.getElem?_cons_succ, List.getElem?_cons_zero] at y3))
  have y1 := x1.ext hb6
  have hbA : Below w.heap.size w w6 := hB0.trans (hb6.mono hB0.size)
  have hgi : W0.heap.size ≤ gi := by
    rcases hat6 with e | e
    · exact (hlo5 _ e).1
    · simp at e; omega
  have h64 : ∀ n ∈ tape ++ [m], In64 n := by
    intro n hn
    rcases List.mem_append.1 hn with h | h
    · exact IT0.out.1 n h
    · simp only [List.mem_singleton] at h
      subst h
      exact HXB.out
  clear y3 u3 c3 x0 x1
  generalize hW7 : w6.setCell ⟨w.heap.size, 3, none⟩ (.slice (some ⟨gi, 0, none⟩) (tape.length + 1) capi) = W7
  have hbB : Below w.heap.size w W7 := by rw [← hW7]; exact hbA.setCell (Nat.le_refl _) _
  have z0 : Blk W7 w.heap.size #[.bool vl, .int .i64 vn, .slice vad vk vcap, .slice (some ⟨gi, 0, none⟩) (tape.length + 1) capi, .int .i64 ((q : Int) + 1), .int .i64 0] 110 := by
    rw [← hW7]
    have := y0.set 3 (.slice (some ⟨gi, 0, none⟩) (tape.length + 1) capi)
    simpa using this
  have z1 : Blk W7 (w.heap.size + 1) #[.bool false, .int .i64 0, .slice none 0 0, .slice none 0 0, .int .i64 0, .int .i64 0] 110 := by rw [← hW7]; exact y1.oth w.heap.size 3 (by omega) _
  have hS7 : IntsS W7 (fun b => w.heap.size + 2 ≤ b) (.slice (some ⟨gi, 0, none⟩) (tape.length + 1) capi) (tape ++ [m]) :=
    IntsS.reads.keep (ho6.s h64) (by rw [← hW7, size_setCell]; exact Nat.le_refl _) (fun b hb hl => ⟨by simp [Value.ownBlock] at hb; omega, by rw [← hW7]; exact Below.heap_setCell _ _ _ _ (by simp [Value.ownBlock] at hb; dsimp only; omega)⟩)
  clear hW7 y0 y1 hbA
  have d0 := z0.cell 0
  have d1 := z0.cell 1
  have d2 := z0.cell 2
  have d3 := z0.cell 3
  have d4 := z0.cell 4
  have d5 := z0.cell 5
  simp only [List.getElem?_toArray, List.getElem?_cons_succ, List.getElem?_cons_zero] at d0 d1 d2 d3 d4 d5
  have e0 := z1.cell 0
  have e1 := z1.cell 1
  have e2 := z1.cell 2
  have e3 := z1.cell 3
  have e4 := z1.cell 4
  have e5 := z1.cell 5
  simp only [List.getElem?_toArray, List.getElem?_cons_succ, List.getElem?_cons_zero] at e0 e1 e2 e3 e4 e5
  have u0 := z1.unfrozen 0
  have u1 := z1.unfrozen 1
  have u2 := z1.unfrozen 2
  have u3 := z1.unfrozen 3
  have u4 := z1.unfrozen 4
  have u5 := z1.unfrozen 5
  go_wp2_with fail
  refine bodyPost_ret (v := .tuple #[.agg #[.bool vl, .int .i64 vn, .slice vad vk vcap, .slice (some ⟨gi, 0, none⟩) (tape.length + 1) capi, .int .i64 ((q : Int) + 1), .int .i64 0], .int .i64 (m)]) (by simp [results, Tryz.results82, go_sem, d0, d1, d2, d3, d4, d5, e0, e1, e2, e3, e4, e5, u0, u1, u2, u3, u4, u5]) rfl ?_
  have hBF : Below w.heap.size w (((((((W7).setCell ⟨w.heap.size + 1, 0, none⟩ (.bool vl)).setCell ⟨w.heap.size + 1, 1, none⟩ (.int .i64 vn)).setCell ⟨w.heap.size + 1, 2, none⟩ (.slice vad vk vcap)).setCell ⟨w.heap.size + 1, 3, none⟩ (.slice (some ⟨gi, 0, none⟩) (tape.length + 1) capi)).setCell ⟨w.heap.size + 1, 4, none⟩ (.int .i64 ((q : Int) + 1))).setCell ⟨w.heap.size + 1, 5, none⟩ (.int .i64 0)) := by
    refine (((((hbB.setCell ?_ _).setCell ?_ _).setCell ?_ _).setCell ?_ _).setCell ?_ _).setCell ?_ _
    all_goals (simp <;> omega)
  have hSF : IntsS (((((((W7).setCell ⟨w.heap.size + 1, 0, none⟩ (.bool vl)).setCell ⟨w.heap.size + 1, 1, none⟩ (.int .i64 vn)).setCell ⟨w.heap.size + 1, 2, none⟩ (.slice vad vk vcap)).setCell ⟨w.heap.size + 1, 3, none⟩ (.slice (some ⟨gi, 0, none⟩) (tape.length + 1) capi)).setCell ⟨w.heap.size + 1, 4, none⟩ (.int .i64 ((q : Int) + 1))).setCell ⟨w.heap.size + 1, 5, none⟩ (.int .i64 0)) (fun b => w.heap.size ≤ b) (.slice (some ⟨gi, 0, none⟩) (tape.length + 1) capi) (tape ++ [m]) :=
    IntsS.reads.keep hS7 (by simp only [size_setCell]; exact Nat.le_refl _) (fun b hb hl => ⟨by omega, by
      rw [Below.heap_setCell _ _ _ _ (by dsimp only; omega), Below.heap_setCell _ _ _ _ (by dsimp only; omega), Below.heap_setCell _ _ _ _ (by dsimp only; omega), Below.heap_setCell _ _ _ _ (by dsimp only; omega), Below.heap_setCell _ _ _ _ (by dsimp only; omega), Below.heap_setCell _ _ _ _ (by dsimp only; omega)]⟩)
  rw [HST.out]
  exact ⟨⟨_, by go_num, hSF⟩, hBF⟩
set_option maxHeartbeats 4000000 in
theorem rcho_mtake (hl : IntsAt w (.slice lad ln lcap) l) (ht : IntsAt w (.slice tad tn tcap) tape) (hln : Hid (ln = l.length)) (htn : Hid (tn = tape.length)) (hm0 : 0 ≤ m) (hm1 : m ≤ 1000) (hq : q ≤ 1099511627776) (hn : tn ≤ 1099511627776) (h : q < ln) (hx0 : 0 < l.getD q 0) (hx1 : ¬ m < l.getD q 0) :
    Calls Tryz.prog 82 #[.agg #[.bool vl, .int .i64 vn, .slice vad vk vcap, .slice tad tn tcap, .int .i64 q, .int .i64 0], .slice lad ln lcap, .bool true, .int .i64 m] w (ChoR w vl vn vk vcap vad (.slice tad tn tcap) q (stC true l m (tape, q))) := by
  obtain ⟨lad', lcap', e1, _, _, hl64, hlc⟩ := hl.form
  obtain ⟨lb, loff, e2, hlb, hcc⟩ := hlc (by have := hln.out; omega)
  simp only [Value.slice.injEq] at e1
  obtain ⟨rfl, -, rfl⟩ := e1
  subst e2
  have cj := hcc q (by have := hln.out; omega)
  have p0 : (0 : Int) ≤ (q : Int) := by omega
  have p1 : (q : Int) < (ln : Int) := by omega
  have p2 : q < ln := by omega
  generalize hx : l.getD q 0 = x at *
  have HXV := Lib.hid hx
  clear hcc hlc hx hl64
  have m5 : ¬ x < 0 := by omega
  have m4 : x ≤ m := by omega
  have HST : Hid (stC true l m (tape, q) = .ok (x, (tape ++ [x], q + 1))) := by
    show _ = _
    have hln0 := hln.out
    have hq : q < l.length := by omega
    unfold stC
    dsimp only
    rw [if_neg (by simp [hq]), HXV.out]
    have e : max 0 (min x m) = x := by omega
    simp only [if_true, e]
    rw [if_neg (by omega)]
  have HXB : Hid (In64 (x)) := ⟨by omega, by omega⟩
  have IT0 := Lib.hid ht
  clear hl ht
  go_enter Tryz.func82, Tryz.ntmps82
  go_upto_region 13 with (fail)
  generalize hW : (w.alloc (.cells #[.bool vl, .int .i64 vn, .slice vad vk vcap, .slice tad tn tcap, .int .i64 ((q : Int) + 1), .int .i64 0] 110)).alloc (.cells #[.bool false, .int .i64 0, .slice none 0 0, .slice none 0 0, .int .i64 0, .int .i64 0] 110) = W0
  have hB0 : Below w.heap.size w W0 := by rw [← hW]; repeat (first | with_reducible assumption | with_reducible exact Below.refl _ _ | with_reducible apply Below.drew | (with_reducible refine Below.alloc ?_ (by first | omega | (simp only [zA, zS, zD, zN]; omega) | (dsimp only; omega) | (simp only [zA, zS, zD, zN]; dsimp only; omega)) _) | (with_reducible refine Below.setCell ?_ (by first | omega | (simp only [zA, zS, zD, zN]; omega) | (dsimp only; omega) | (simp only [zA, zS, zD, zN]; dsimp only; omega)) _) | (with_reducible apply below_drewN))
  have x0 : Blk W0 w.heap.size #[.bool vl, .int .i64 vn, .slice vad vk vcap, .slice tad tn tcap, .int .i64 ((q : Int) + 1), .int .i64 0] 110 := by rw [← hW]; exact (Blk.new w #[.bool vl, .int .i64 vn, .slice vad vk vcap, .slice tad tn tcap, .int .i64 ((q : Int) + 1), .int .i64 0] 110).alloc _
  have x1 : Blk W0 (w.heap.size + 1) #[.bool false, .int .i64 0, .slice none 0 0, .slice none 0 0, .int .i64 0, .int .i64 0] 110 := by rw [← hW]; simpa using Blk.new (w.alloc (.cells #[.bool vl, .int .i64 vn, .slice vad vk vcap, .slice tad tn tcap, .int .i64 ((q : Int) + 1), .int .i64 0] 110)) #[.bool false, .int .i64 0, .slice none 0 0, .slice none 0 0, .int .i64 0, .int .i64 0] 110
  have hz0 : w.heap.size + 2 ≤ W0.heap.size := by have := x1.lt; omega
  have hlt0 : w.heap.size < W0.heap.size := by omega
  have hlt1 : w.heap.size + 1 < W0.heap.size := by omega
  clear hW
  have IT : IntsAt W0 (.slice tad tn tcap) tape := IT0.out.ext hB0
  have hnn : tape.length ≤ 1099511627776 := by have := htn.out; omega
  have c3 := x0.cell 3
  simp only [List.getElem?_toArray, List.getElem?_cons_succ, List.getElem?_cons_zero] at c3
  go_upto_region 14 with (first | (at_builtin; refine append_ints (o := ⟨some 46, _, _, _, _, _⟩) rfl _ _ rfl rfl (OwnInts.lit _ W0.heap.size [] (Nat.le_refl _) (by decide)) rfl (IT.ext ((Below.refl _ _).alloc (Nat.le_refl _) _)) (by simp only [List.length_nil]; omega) (by simp) ?_; intro v5 w5 ho5 hg5 _; have hb5 := grown_lit hg5; have hz5 := hb5.size; rw [List.nil_append] at ho5; clear hg5) | (at_builtin; refine append_int1 (v := v5) (xs := tape) (o := ⟨some 49, _, _, _, _, _⟩) rfl _ _ rfl rfl (ho5.kept (by repeat (first | with_reducible assumption | with_reducible exact Below.refl _ _ | with_reducible apply Below.drew | (with_reducible refine Below.alloc ?_ (by first | omega | (simp only [zA, zS, zD, zN]; omega) | (dsimp only; omega) | (simp only [zA, zS, zD, zN]; dsimp only; omega)) _) | (with_reducible refine Below.setCell ?_ (by first | omega | (simp only [zA, zS, zD, zN]; omega) | (dsimp only; omega) | (simp only [zA, zS, zD, zN]; dsimp only; omega)) _) | (with_reducible apply below_drewN)))) rfl (Blk.new _ _ _) (by omega) (by simp; omega) ?_; intro gi capi w6 ho6 hg6 hat6 hlt6; have hlo5 := World.ownsRow.lt ho5; have hb6 : Below W0.heap.size W0 w6 := (hb5.alloc (by omega) _).grown hg6 (by simp; omega) (fun k hk => (hlo5 k hk).1); have y0 := x0.ext hb6; have y3 := y0.cell 3; have u3 := y0.unfrozen 3; simp only [List.getElem?_toArray, List.getElem?_cons_succ, List.getElem?_cons_zero] at y3))
  have y1 := x1.ext hb6
  have hbA : Below w.heap.size w w6 := hB0.trans (hb6.mono hB0.size)
  have hgi : W0.heap.size ≤ gi := by
    rcases hat6 with e | e
    · exact (hlo5 _ e).1
    · simp at e; omega
  have h64 : ∀ n ∈ tape ++ [x], In64 n := by
    intro n hn
    rcases List.mem_append.1 hn with h | h
    · exact IT0.out.1 n h
    · simp only [List.mem_singleton] at h
      subst h
      exact HXB.out
  clear y3 u3 c3 x0 x1
  generalize hW7 : w6.setCell ⟨w.heap.size, 3, none⟩ (.slice (some ⟨gi, 0, none⟩) (tape.length + 1) capi) = W7
  have hbB : Below w.heap.size w W7 := by rw [← hW7]; exact hbA.setCell (Nat.le_refl _) _
  have z0 : Blk W7 w.heap.size #[.bool vl, .int .i64 vn, .slice vad vk vcap, .slice (some ⟨gi, 0, none⟩) (tape.length + 1) capi, .int .i64 ((q : Int) + 1), .int .i64 0] 110 := by
    rw [← hW7]
    have := y0.set 3 (.slice (some ⟨gi, 0, none⟩) (tape.length + 1) capi)
    simpa using this
  have z1 : Blk W7 (w.heap.size + 1) #[.bool false, .int .i64 0, .slice none 0 0, .slice none 0 0, .int .i64 0, .int .i64 0] 110 := by rw [← hW7]; exact y1.oth w.heap.size 3 (by omega) _
  have hS7 : IntsS W7 (fun b => w.heap.size + 2 ≤ b) (.slice (some ⟨gi, 0, none⟩) (tape.length + 1) capi) (tape ++ [x]) :=
    IntsS.reads.keep (ho6.s h64) (by rw [← hW7, size_setCell]; exact Nat.le_refl _) (fun b hb hl => ⟨by simp [Value.ownBlock] at hb; omega, by rw [← hW7]; exact Below.heap_setCell _ _ _ _ (by simp [Value.ownBlock] at hb; dsimp only; omega)⟩)
  clear hW7 y0 y1 hbA
  have d0 := z0.cell 0
  have d1 := z0.cell 1
  have d2 := z0.cell 2
  have d3 := z0.cell 3
  have d4 := z0.cell 4
  have d5 := z0.cell 5
  simp only [List.getElem?_toArray, List.getElem?_cons_succ, List.getElem?_cons_zero] at d0 d1 d2 d3 d4 d5
  have e0 := z1.cell 0
  have e1 := z1.cell 1
  have e2 := z1.cell 2
  have e3 := z1.cell 3
  have e4 := z1.cell 4
  have e5 := z1.cell 5
  simp only [List.getElem?_toArray, List.getElem?_cons_succ, List.getElem?_cons_zero] at e0 e1 e2 e3 e4 e5
  have u0 := z1.unfrozen 0
  have u1 := z1.unfrozen 1
  have u2 := z1.unfrozen 2
  have u3 := z1.unfrozen 3
  have u4 := z1.unfrozen 4
  have u5 := z1.unfrozen 5
  go_wp2_with fail
  refine bodyPost_ret (v := .tuple #[.agg #[.bool vl, .int .i64 vn, .slice vad vk vcap, .slice (some ⟨gi, 0, none⟩) (tape.length + 1) capi, .int .i64 ((q : Int) + 1), .int .i64 0], .int .i64 (x)]) (by simp [results, Tryz.results82, go_sem, d0, d1, d2, d3, d4, d5, e0, e1, e2, e3, e4, e5, u0, u1, u2, u3, u4, u5]) rfl ?_
  have hBF : Below w.heap.size w (((((((W7).setCell ⟨w.heap.size + 1, 0, none⟩ (.bool vl)).setCell ⟨w.heap.size + 1, 1, none⟩ (.int .i64 vn)).setCell ⟨w.heap.size + 1, 2, none⟩ (.slice vad vk vcap)).setCell ⟨w.heap.size + 1, 3, none⟩ (.slice (some ⟨gi, 0, none⟩) (tape.length + 1) capi)).setCell ⟨w.heap.size + 1, 4, none⟩ (.int .i64 ((q : Int) + 1))).setCell ⟨w.heap.size + 1, 5, none⟩ (.int .i64 0)) := by
    refine (((((hbB.setCell ?_ _).setCell ?_ _).setCell ?_ _).setCell ?_ _).setCell ?_ _).setCell ?_ _
    all_goals (simp <;> omega)
  have hSF : IntsS (((((((W7).setCell ⟨w.heap.size + 1, 0, none⟩ (.bool vl)).setCell ⟨w.heap.size + 1, 1, none⟩ (.int .i64 vn)).setCell ⟨w.heap.size + 1, 2, none⟩ (.slice vad vk vcap)).setCell ⟨w.heap.size + 1, 3, none⟩ (.slice (some ⟨gi, 0, none⟩) (tape.length + 1) capi)).setCell ⟨w.heap.size + 1, 4, none⟩ (.int .i64 ((q : Int) + 1))).setCell ⟨w.heap.size + 1, 5, none⟩ (.int .i64 0)) (fun b => w.heap.size ≤ b) (.slice (some ⟨gi, 0, none⟩) (tape.length + 1) capi) (tape ++ [x]) :=
    IntsS.reads.keep hS7 (by simp only [size_setCell]; exact Nat.le_refl _) (fun b hb hl => ⟨by omega, by
      rw [Below.heap_setCell _ _ _ _ (by dsimp only; omega), Below.heap_setCell _ _ _ _ (by dsimp only; omega), Below.heap_setCell _ _ _ _ (by dsimp only; omega), Below.heap_setCell _ _ _ _ (by dsimp only; omega), Below.heap_setCell _ _ _ _ (by dsimp only; omega), Below.heap_setCell _ _ _ _ (by dsimp only; omega)]⟩)
  rw [HST.out]
  exact ⟨⟨_, by go_num, hSF⟩, hBF⟩
set_option maxHeartbeats 4000000 in
theorem rcho_mnone (hl : IntsAt w (.slice lad ln lcap) l) (ht : IntsAt w (.slice tad tn tcap) tape) (hln : Hid (ln = l.length)) (htn : Hid (tn = tape.length)) (hm0 : 0 ≤ m) (hm1 : m ≤ 1000) (hq : q ≤ 1099511627776) (hn : tn ≤ 1099511627776) (h : q < ln) (hx0 : ¬ l.getD q 0 < 0) (hx1 : 0 < l.getD q 0) (hmz : m = 0) :
    Calls Tryz.prog 82 #[.agg #[.bool vl, .int .i64 vn, .slice vad vk vcap, .slice tad tn tcap, .int .i64 q, .int .i64 0], .slice lad ln lcap, .bool true, .int .i64 m] w (ChoR w vl vn vk vcap vad (.slice tad tn tcap) q (stC true l m (tape, q))) := by
  subst hmz
  obtain ⟨lad', lcap', e1, _, _, hl64, hlc⟩ := hl.form
  obtain ⟨lb, loff, e2, hlb, hcc⟩ := hlc (by have := hln.out; omega)
  simp only [Value.slice.injEq] at e1
  obtain ⟨rfl, -, rfl⟩ := e1
  subst e2
  have cj := hcc q (by have := hln.out; omega)
  have p0 : (0 : Int) ≤ (q : Int) := by omega
  have p1 : (q : Int) < (ln : Int) := by omega
  have p2 : q < ln := by omega
  generalize hx : l.getD q 0 = x at *
  have HXV := Lib.hid hx
  clear hcc hlc hx hl64
  have m3 : ¬ x < 0 := by omega
  have m4 : ¬ x ≤ 0 := by omega
  have HST : Hid (stC true l 0 (tape, q) = .ok (0, (tape ++ [0], q + 1))) := by
    show _ = _
    have hln0 := hln.out
    have hq : q < l.length := by omega
    unfold stC
    dsimp only
    rw [if_neg (by simp [hq]), HXV.out]
    have e : max 0 (min x 0) = 0 := by omega
    simp only [if_true, e]
    rw [if_neg (by omega)]
  have HXB : Hid (In64 (0)) := ⟨by omega, by omega⟩
  have IT0 := Lib.hid ht
  clear hl ht
  go_enter Tryz.func82, Tryz.ntmps82
  go_upto_region 13 with (fail)
  generalize hW : (w.alloc (.cells #[.bool vl, .int .i64 vn, .slice vad vk vcap, .slice tad tn tcap, .int .i64 ((q : Int) + 1), .int .i64 0] 110)).alloc (.cells #[.bool false, .int .i64 0, .slice none 0 0, .slice none 0 0, .int .i64 0, .int .i64 0] 110) = W0
  have hB0 : Below w.heap.size w W0 := by rw [← hW]; repeat (first | with_reducible assumption | with_reducible exact Below.refl _ _ | with_reducible apply Below.drew | (with_reducible refine Below.alloc ?_ (by first | omega | (simp only [zA, zS, zD, zN]; omega) | (dsimp only; omega) | (simp only [zA, zS, zD, zN]; dsimp only; omega)) _) | (with_reducible refine Below.setCell ?_ (by first | omega | (simp only [zA, zS, zD, zN]; omega) | (dsimp only; omega) | (simp only [zA, zS, zD, zN]; dsimp only; omega)) _) | (with_reducible apply below_drewN))
  have x0 : Blk W0 w.heap.size #[.bool vl, .int .i64 vn, .slice vad vk vcap, .slice tad tn tcap, .int .i64 ((q : Int) + 1), .int .i64 0] 110 := by rw [← hW]; exact (Blk.new w #[.bool vl, .int .i64 vn, .slice vad vk vcap, .slice tad tn tcap, .int .i64 ((q : Int) + 1), .int .i64 0] 110).alloc _
  have x1 : Blk W0 (w.heap.size + 1) #[.bool false, .int .i64 0, .slice none 0 0, .slice none 0 0, .int .i64 0, .int .i64 0] 110 := by rw [← hW]; simpa using Blk.new (w.alloc (.cells #[.bool vl, .int .i64 vn, .slice vad vk vcap, .slice tad tn tcap, .int .i64 ((q : Int) + 1), .int .i64 0] 110)) #[.bool false, .int .i64 0, .slice none 0 0, .slice none 0 0, .int .i64 0, .int .i64 0] 110
  have hz0 : w.heap.size + 2 ≤ W0.heap.size := by have := x1.lt; omega
  have hlt0 : w.heap.size < W0.heap.size := by omega
  have hlt1 : w.heap.size + 1 < W0.heap.size := by omega
  clear hW
  have IT : IntsAt W0 (.slice tad tn tcap) tape := IT0.out.ext hB0
  have hnn : tape.length ≤ 1099511627776 := by have := htn.out; omega
  have c3 := x0.cell 3
  simp only [List.getElem?_toArray, List.getElem?_cons_succ, List.getElem?_cons_zero] at c3
  go_upto_region 14 with (first | (at_builtin; refine append_ints (o := ⟨some 46, _, _, _, _, _⟩) rfl _ _ rfl rfl (OwnInts.lit _ W0.heap.size [] (Nat.le_refl _) (by decide)) rfl (IT.ext ((Below.refl _ _).alloc (Nat.le_refl _) _)) (by simp only [List.length_nil]; omega) (by simp) ?_; intro v5 w5 ho5 hg5 _; have hb5 := grown_lit hg5; have hz5 := hb5.size; rw [List.nil_append] at ho5; clear hg5) | (at_builtin; refine append_int1 (v := v5) (xs := tape) (o := ⟨some 49, _, _, _, _, _⟩) rfl _ _ rfl rfl (ho5.kept (by repeat (first | with_reducible assumption | with_reducible exact Below.refl _ _ | with_reducible apply Below.drew | (with_reducible refine Below.alloc ?_ (by first | omega | (simp only [zA, zS, zD, zN]; omega) | (dsimp only; omega) | (simp only [zA, zS, zD, zN]; dsimp only; omega)) _) | (with_reducible refine Below.setCell ?_ (by first | omega | (simp only [zA, zS, zD, zN]; omega) | (dsimp only; omega) | (simp only [zA, zS, zD, zN]; dsimp only; omega)) _) | (with_reducible apply below_drewN)))) rfl (Blk.new _ _ _) (by omega) (by simp; omega) ?_; intro gi capi w6 ho6 hg6 hat6 hlt6; have hlo5 := World.ownsRow.lt ho5; have hb6 : Below W0.heap.size W0 w6 := (hb5.alloc (by omega) _).grown hg6 (by simp; omega) (fun k hk => (hlo5 k hk).1); have y0 := x0.ext hb6; have y3 := y0.cell 3; have u3 := y0.unfrozen 3; simp only [List.getElem?_toArray, List.getElem?_cons_succ, List.getElem?_cons_zero] at y3))
  have y1 := x1.ext hb6
  have hbA : Below w.heap.size w w6 := hB0.trans (hb6.mono hB0.size)
  have hgi : W0.heap.size ≤ gi := by
    rcases hat6 with e | e
    · exact (hlo5 _ e).1
    · simp at e; omega
  have h64 : ∀ n ∈ tape ++ [0], In64 n := by
    intro n hn
    rcases List.mem_append.1 hn with h | h
    · exact IT0.out.1 n h
    · simp only [List.mem_singleton] at h
      subst h
      exact HXB.out
  clear y3 u3 c3 x0 x1
  generalize hW7 : w6.setCell ⟨w.heap.size, 3, none⟩ (.slice (some ⟨gi, 0, none⟩) (tape.length + 1) capi) = W7
  have hbB : Below w.heap.size w W7 := by rw [← hW7]; exact hbA.setCell (Nat.le_refl _) _
  have z0 : Blk W7 w.heap.size #[.bool vl, .int .i64 vn, .slice vad vk vcap, .slice (some ⟨gi, 0, none⟩) (tape.length + 1) capi, .int .i64 ((q : Int) + 1), .int .i64 0] 110 := by
    rw [← hW7]
    have := y0.set 3 (.slice (some ⟨gi, 0, none⟩) (tape.length + 1) capi)
    simpa using this
  have z1 : Blk W7 (w.heap.size + 1) #[.bool false, .int .i64 0, .slice none 0 0, .slice none 0 0, .int .i64 0, .int .i64 0] 110 := by rw [← hW7]; exact y1.oth w.heap.size 3 (by omega) _
  have hS7 : IntsS W7 (fun b => w.heap.size + 2 ≤ b) (.slice (some ⟨gi, 0, none⟩) (tape.length + 1) capi) (tape ++ [0]) :=
    IntsS.reads.keep (ho6.s h64) (by rw [← hW7, size_setCell]; exact Nat.le_refl _) (fun b hb hl => ⟨by simp [Value.ownBlock] at hb; omega, by rw [← hW7]; exact Below.heap_setCell _ _ _ _ (by simp [Value.ownBlock] at hb; dsimp only; omega)⟩)
  clear hW7 y0 y1 hbA
  have d0 := z0.cell 0
  have d1 := z0.cell 1
  have d2 := z0.cell 2
  have d3 := z0.cell 3
  have d4 := z0.cell 4
  have d5 := z0.cell 5
  simp only [List.getElem?_toArray, List.getElem?_cons_succ, List.getElem?_cons_zero] at d0 d1 d2 d3 d4 d5
  have e0 := z1.cell 0
  have e1 := z1.cell 1
  have e2 := z1.cell 2
  have e3 := z1.cell 3
  have e4 := z1.cell 4
  have e5 := z1.cell 5
  simp only [List.getElem?_toArray, List.getElem?_cons_succ, List.getElem?_cons_zero] at e0 e1 e2 e3 e4 e5
  have u0 := z1.unfrozen 0
  have u1 := z1.unfrozen 1
  have u2 := z1.unfrozen 2
  have u3 := z1.unfrozen 3
  have u4 := z1.unfrozen 4
  have u5 := z1.unfrozen 5
  go_wp2_with fail
  refine bodyPost_ret (v := .tuple #[.agg #[.bool vl, .int .i64 vn, .slice vad vk vcap, .slice (some ⟨gi, 0, none⟩) (tape.length + 1) capi, .int .i64 ((q : Int) + 1), .int .i64 0], .int .i64 (0)]) (by simp [results, Tryz.results82, go_sem, d0, d1, d2, d3, d4, d5, e0, e1, e2, e3, e4, e5, u0, u1, u2, u3, u4, u5]) rfl ?_
  have hBF : Below w.heap.size w (((((((W7).setCell ⟨w.heap.size + 1, 0, none⟩ (.bool vl)).setCell ⟨w.heap.size + 1, 1, none⟩ (.int .i64 vn)).setCell ⟨w.heap.size + 1, 2, none⟩ (.slice vad vk vcap)).setCell ⟨w.heap.size + 1, 3, none⟩ (.slice (some ⟨gi, 0, none⟩) (tape.length + 1) capi)).setCell ⟨w.heap.size + 1, 4, none⟩ (.int .i64 ((q : Int) + 1))).setCell ⟨w.heap.size + 1, 5, none⟩ (.int .i64 0)) := by
    refine (((((hbB.setCell ?_ _).setCell ?_ _).setCell ?_ _).setCell ?_ _).setCell ?_ _).setCell ?_ _
    all_goals (simp <;> omega)
  have hSF : IntsS (((((((W7).setCell ⟨w.heap.size + 1, 0, none⟩ (.bool vl)).setCell ⟨w.heap.size + 1, 1, none⟩ (.int .i64 vn)).setCell ⟨w.heap.size + 1, 2, none⟩ (.slice vad vk vcap)).setCell ⟨w.heap.size + 1, 3, none⟩ (.slice (some ⟨gi, 0, none⟩) (tape.length + 1) capi)).setCell ⟨w.heap.size + 1, 4, none⟩ (.int .i64 ((q : Int) + 1))).setCell ⟨w.heap.size + 1, 5, none⟩ (.int .i64 0)) (fun b => w.heap.size ≤ b) (.slice (some ⟨gi, 0, none⟩) (tape.length + 1) capi) (tape ++ [0]) :=
    IntsS.reads.keep hS7 (by simp only [size_setCell]; exact Nat.le_refl _) (fun b hb hl => ⟨by omega, by
      rw [Below.heap_setCell _ _ _ _ (by dsimp only; omega), Below.heap_setCell _ _ _ _ (by dsimp only; omega), Below.heap_setCell _ _ _ _ (by dsimp only; omega), Below.heap_setCell _ _ _ _ (by dsimp only; omega), Below.heap_setCell _ _ _ _ (by dsimp only; omega), Below.heap_setCell _ _ _ _ (by dsimp only; omega)]⟩)
  rw [HST.out]
  exact ⟨⟨_, by go_num, hSF⟩, hBF⟩
set_option maxHeartbeats 4000000 in
theorem rcho_mzero (hl : IntsAt w (.slice lad ln lcap) l) (ht : IntsAt w (.slice tad tn tcap) tape) (hln : Hid (ln = l.length)) (htn : Hid (tn = tape.length)) (hm0 : 0 ≤ m) (hm1 : m ≤ 1000) (hq : q ≤ 1099511627776) (hn : tn ≤ 1099511627776) (h : q < ln) (hx0 : l.getD q 0 = 0) :
    Calls Tryz.prog 82 #[.agg #[.bool vl, .int .i64 vn, .slice vad vk vcap, .slice tad tn tcap, .int .i64 q, .int .i64 0], .slice lad ln lcap, .bool true, .int .i64 m] w (ChoR w vl vn vk vcap vad (.slice tad tn tcap) q (stC true l m (tape, q))) := by
  obtain ⟨lad', lcap', e1, _, _, hl64, hlc⟩ := hl.form
  obtain ⟨lb, loff, e2, hlb, hcc⟩ := hlc (by have := hln.out; omega)
  simp only [Value.slice.injEq] at e1
  obtain ⟨rfl, -, rfl⟩ := e1
  subst e2
  have cj := hcc q (by have := hln.out; omega)
  have p0 : (0 : Int) ≤ (q : Int) := by omega
  have p1 : (q : Int) < (ln : Int) := by omega
  have p2 : q < ln := by omega
  generalize hx : l.getD q 0 = x at *
  have HXV := Lib.hid hx
  clear hcc hlc hx hl64
  subst hx0
  have m2 : ¬ m < 0 := by omega
  have HST : Hid (stC true l m (tape, q) = .ok (0, (tape ++ [0], q + 1))) := by
    show _ = _
    have hln0 := hln.out
    have hq : q < l.length := by omega
    unfold stC
    dsimp only
    rw [if_neg (by simp [hq]), HXV.out]
    have e : max 0 (min 0 m) = 0 := by omega
    simp only [if_true, e]
    rw [if_neg (by omega)]
  have HXB : Hid (In64 (0)) := ⟨by omega, by omega⟩
  have IT0 := Lib.hid ht
  clear hl ht
  go_enter Tryz.func82, Tryz.ntmps82
  go_upto_region 13 with (fail)
  generalize hW : (w.alloc (.cells #[.bool vl, .int .i64 vn, .slice vad vk vcap, .slice tad tn tcap, .int .i64 ((q : Int) + 1), .int .i64 0] 110)).alloc (.cells #[.bool false, .int .i64 0, .slice none 0 0, .slice none 0 0, .int .i64 0, .int .i64 0] 110) = W0
  have hB0 : Below w.heap.size w W0 := by rw [← hW]; repeat (first | with_reducible assumption | with_reducible exact Below.refl _ _ | with_reducible apply Below.drew | (with_reducible refine Below.alloc ?_ (by first | omega | (simp only [zA, zS, zD, zN]; omega) | (dsimp only; omega) | (simp only [zA, zS, zD, zN]; dsimp only; omega)) _) | (with_reducible refine Below.setCell ?_ (by first | omega | (simp only [zA, zS, zD, zN]; omega) | (dsimp only; omega) | (simp only [zA, zS, zD, zN]; dsimp only; omega)) _) | (with_reducible apply below_drewN))
  have x0 : Blk W0 w.heap.size #[.bool vl, .int .i64 vn, .slice vad vk vcap, .slice tad tn tcap, .int .i64 ((q : Int) + 1), .int .i64 0] 110 := by rw [← hW]; exact (Blk.new w #[.bool vl, .int .i64 vn, .slice vad vk vcap, .slice tad tn tcap, .int .i64 ((q : Int) + 1), .int .i64 0] 110).alloc _
  have x1 : Blk W0 (w.heap.size + 1) #[.bool false, .int .i64 0, .slice none 0 0, .slice none 0 0, .int .i64 0, .int .i64 0] 110 := by rw [← hW]; simpa using Blk.new (w.alloc (.cells #[.bool vl, .int .i64 vn, .slice vad vk vcap, .slice tad tn tcap, .int .i64 ((q : Int) + 1), .int .i64 0] 110)) #[.bool false, .int .i64 0, .slice none 0 0, .slice none 0 0, .int .i64 0, .int .i64 0] 110
  have hz0 : w.heap.size + 2 ≤ W0.heap.size := by have := x1.lt; omega
  have hlt0 : w.heap.size < W0.heap.size := by omega
  have hlt1 : w.heap.size + 1 < W0.heap.size := by omega
  clear hW
  have IT : IntsAt W0 (.slice tad tn tcap) tape := IT0.out.ext hB0
  have hnn : tape.length ≤ 1099511627776 := by have := htn.out; omega
  have c3 := x0.cell 3
  simp only [List.getElem?_toArray, List.getElem?_cons_succ, List.getElem?_cons_zero] at c3
  go_upto_region 14 with (first | (at_builtin; refine append_ints (o := ⟨some 46, _, _, _, _, _⟩) rfl _ _ rfl rfl (OwnInts.lit _ W0.heap.size [] (Nat.le_refl _) (by decide)) rfl (IT.ext ((Below.refl _ _).alloc (Nat.le_refl _) _)) (by simp only [List.length_nil]; omega) (by simp) ?_; intro v5 w5 ho5 hg5 _; have hb5 := grown_lit hg5; have hz5 := hb5.size; rw [List.nil_append] at ho5; clear hg5) | (at_builtin; refine append_int1 (v := v5) (xs := tape) (o := ⟨some 49, _, _, _, _, _⟩) rfl _ _ rfl rfl (ho5.kept (by repeat (first | with_reducible assumption | with_reducible exact Below.refl _ _ | with_reducible apply Below.drew | (with_reducible refine Below.alloc ?_ (by first | omega | (simp only [zA, zS, zD, zN]; omega) | (dsimp only; omega) | (simp only [zA, zS, zD, zN]; dsimp only; omega)) _) | (with_reducible refine Below.setCell ?_ (by first | omega | (simp only [zA, zS, zD, zN]; omega) | (dsimp only; omega) | (simp only [zA, zS, zD, zN]; dsimp only; omega)) _) | (with_reducible apply below_drewN)))) rfl (Blk.new _ _ _) (by omega) (by simp; omega) ?_; intro gi capi w6 ho6 hg6 hat6 hlt6; have hlo5 := World.ownsRow.lt ho5; have hb6 : Below W0.heap.size W0 w6 := (hb5.alloc (by omega) _).grown hg6 (by simp; omega) (fun k hk => (hlo5 k hk).1); have y0 := x0.ext hb6; have y3 := y0.cell 3; have u3 := y0.unfrozen 3; simp only [List.getElem?_toArray, List.getElem?_cons_succ, List.getElem?_cons_zero] at y3))
  have y1 := x1.ext hb6
  have hbA : Below w.heap.size w w6 := hB0.trans (hb6.mono hB0.size)
  have hgi : W0.heap.size ≤ gi := by
    rcases hat6 with e | e
    · exact (hlo5 _ e).1
    · simp at e; omega
  have h64 : ∀ n ∈ tape ++ [0], In64 n := by
    intro n hn
    rcases List.mem_append.1 hn with h | h
    · exact IT0.out.1 n h
    · simp only [List.mem_singleton] at h
      subst h
      exact HXB.out
  clear y3 u3 c3 x0 x1
  generalize hW7 : w6.setCell ⟨w.heap.size, 3, none⟩ (.slice (some ⟨gi, 0, none⟩) (tape.length + 1) capi) = W7
  have hbB : Below w.heap.size w W7 := by rw [← hW7]; exact hbA.setCell (Nat.le_refl _) _
  have z0 : Blk W7 w.heap.size #[.bool vl, .int .i64 vn, .slice vad vk vcap, .slice (some ⟨gi, 0, none⟩) (tape.length + 1) capi, .int .i64 ((q : Int) + 1), .int .i64 0] 110 := by
    rw [← hW7]
    have := y0.set 3 (.slice (some ⟨gi, 0, none⟩) (tape.length + 1) capi)
    simpa using this
  have z1 : Blk W7 (w.heap.size + 1) #[.bool false, .int .i64 0, .slice none 0 0, .slice none 0 0, .int .i64 0, .int .i64 0] 110 := by rw [← hW7]; exact y1.oth w.heap.size 3 (by omega) _
  have hS7 : IntsS W7 (fun b => w.heap.size + 2 ≤ b) (.slice (some ⟨gi, 0, none⟩) (tape.length + 1) capi) (tape ++ [0]) :=
    IntsS.reads.keep (ho6.s h64) (by rw [← hW7, size_setCell]; exact Nat.le_refl _) (fun b hb hl => ⟨by simp [Value.ownBlock] at hb; omega, by rw [← hW7]; exact Below.heap_setCell _ _ _ _ (by simp [Value.ownBlock] at hb; dsimp only; omega)⟩)
  clear hW7 y0 y1 hbA
  have d0 := z0.cell 0
  have d1 := z0.cell 1
  have d2 := z0.cell 2
  have d3 := z0.cell 3
  have d4 := z0.cell 4
  have d5 := z0.cell 5
  simp only [List.getElem?_toArray, List.getElem?_cons_succ, List.getElem?_cons_zero] at d0 d1 d2 d3 d4 d5
  have e0 := z1.cell 0
  have e1 := z1.cell 1
  have e2 := z1.cell 2
  have e3 := z1.cell 3
  have e4 := z1.cell 4
  have e5 := z1.cell 5
  simp only [List.getElem?_toArray, List.getElem?_cons_succ, List.getElem?_cons_zero] at e0 e1 e2 e3 e4 e5
  have u0 := z1.unfrozen 0
  have u1 := z1.unfrozen 1
  have u2 := z1.unfrozen 2
  have u3 := z1.unfrozen 3
  have u4 := z1.unfrozen 4
  have u5 := z1.unfrozen 5
  go_wp2_with fail
  refine bodyPost_ret (v := .tuple #[.agg #[.bool vl, .int .i64 vn, .slice vad vk vcap, .slice (some ⟨gi, 0, none⟩) (tape.length + 1) capi, .int .i64 ((q : Int) + 1), .int .i64 0], .int .i64 (0)]) (by simp [results, Tryz.results82, go_sem, d0, d1, d2, d3, d4, d5, e0, e1, e2, e3, e4, e5, u0, u1, u2, u3, u4, u5]) rfl ?_
  have hBF : Below w.heap.size w (((((((W7).setCell ⟨w.heap.size + 1, 0, none⟩ (.bool vl)).setCell ⟨w.heap.size + 1, 1, none⟩ (.int .i64 vn)).setCell ⟨w.heap.size + 1, 2, none⟩ (.slice vad vk vcap)).setCell ⟨w.heap.size + 1, 3, none⟩ (.slice (some ⟨gi, 0, none⟩) (tape.length + 1) capi)).setCell ⟨w.heap.size + 1, 4, none⟩ (.int .i64 ((q : Int) + 1))).setCell ⟨w.heap.size + 1, 5, none⟩ (.int .i64 0)) := by
    refine (((((hbB.setCell ?_ _).setCell ?_ _).setCell ?_ _).setCell ?_ _).setCell ?_ _).setCell ?_ _
    all_goals (simp <;> omega)
  have hSF : IntsS (((((((W7).setCell ⟨w.heap.size + 1, 0, none⟩ (.bool vl)).setCell ⟨w.heap.size + 1, 1, none⟩ (.int .i64 vn)).setCell ⟨w.heap.size + 1, 2, none⟩ (.slice vad vk vcap)).setCell ⟨w.heap.size + 1, 3, none⟩ (.slice (some ⟨gi, 0, none⟩) (tape.length + 1) capi)).setCell ⟨w.heap.size + 1, 4, none⟩ (.int .i64 ((q : Int) + 1))).setCell ⟨w.heap.size + 1, 5, none⟩ (.int .i64 0)) (fun b => w.heap.size ≤ b) (.slice (some ⟨gi, 0, none⟩) (tape.length + 1) capi) (tape ++ [0]) :=
    IntsS.reads.keep hS7 (by simp only [size_setCell]; exact Nat.le_refl _) (fun b hb hl => ⟨by omega, by
      rw [Below.heap_setCell _ _ _ _ (by dsimp only; omega), Below.heap_setCell _ _ _ _ (by dsimp only; omega), Below.heap_setCell _ _ _ _ (by dsimp only; omega), Below.heap_setCell _ _ _ _ (by dsimp only; omega), Below.heap_setCell _ _ _ _ (by dsimp only; omega), Below.heap_setCell _ _ _ _ (by dsimp only; omega)]⟩)
  rw [HST.out]
  exact ⟨⟨_, by go_num, hSF⟩, hBF⟩
end
theorem rchoice_any (mend : Bool) {w : World} {vl : Bool} {vn : Int} {vk vcap q : Nat} {vad : Option Addr} {l tape : List Int} {m : Int} {lv tv : Value} (hl : IntsAt w lv l) (ht : IntsAt w tv tape) (hm0 : 0 ≤ m) (hm1 : m ≤ 1000) (hq : q ≤ 1099511627776) (hn : tape.length ≤ 1099511627776) :
    Calls Tryz.prog 82 #[.agg #[.bool vl, .int .i64 vn, .slice vad vk vcap, tv, .int .i64 q, .int .i64 0], lv, .bool mend, .int .i64 m] w (ChoR w vl vn vk vcap vad tv q (stC mend l m (tape, q))) := by
  obtain ⟨lad, lcap, rfl, _⟩ := hl.form
  obtain ⟨tad, tcap, rfl, _⟩ := ht.form
  cases mend with
  | false =>
    by_cases h : q < l.length
    · by_cases hx0 : l.getD q 0 < 0
      · exact rcho_low hl ht rfl rfl hm0 hm1 hq hn h hx0
      · by_cases hx1 : m < l.getD q 0
        · exact rcho_high hl ht rfl rfl hm0 hm1 hq hn h hx0 hx1
        · exact rcho_take hl ht rfl rfl hm0 hm1 hq hn h hx0 hx1
    · exact rcho_short hl ht rfl rfl hm0 hm1 hq hn h
  | true =>
    by_cases h : q < l.length
    · by_cases hx0 : l.getD q 0 < 0
      · exact rcho_mlow hl ht rfl rfl hm0 hm1 hq hn h hx0
      · by_cases hx1 : m < l.getD q 0
        · by_cases hmz : m = 0
          · exact rcho_mnone hl ht rfl rfl hm0 hm1 hq hn h hx0 (by omega) hmz
          · exact rcho_mhigh hl ht rfl rfl hm0 hm1 hq hn h hx0 hx1 (by omega)
        · by_cases hxz : l.getD q 0 = 0
          · exact rcho_mzero hl ht rfl rfl hm0 hm1 hq hn h hxz
          · exact rcho_mtake hl ht rfl rfl hm0 hm1 hq hn h (by omega) hx1
    · exact rcho_zero hl ht rfl rfl hm0 hm1 hq hn h
end Go.Proofs.YtibmnifenfingaaGreatDoor
