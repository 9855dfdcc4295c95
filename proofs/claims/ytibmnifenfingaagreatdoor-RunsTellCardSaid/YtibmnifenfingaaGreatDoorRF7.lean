/- The walk through the document's answer on what is made of numbers: a play that has failed, one number, one of some. -/
import Derived.Test.YtibmnifenfingaaGreatDoorRF6
import Derived.Test.YtibmnifenfingaaGreatDoorREG
namespace Go.Proofs.YtibmnifenfingaaGreatDoor
set_option maxRecDepth 100000
open Go.RowKit
set_option linter.unusedSimpArgs false
set_option linter.unusedVariables false

theorem set6 {w : World} {p : Nat} {o0 o1 o2 o3 o4 o5 : Value} {t : TypeId} (h : Blk w p #[o0, o1, o2, o3, o4, o5] t) (c0 c1 c2 c3 c4 c5 : Value) : Blk ((((((w.setCell ⟨p, 0, none⟩ c0).setCell ⟨p, 1, none⟩ c1).setCell ⟨p, 2, none⟩ c2).setCell ⟨p, 3, none⟩ c3).setCell ⟨p, 4, none⟩ c4).setCell ⟨p, 5, none⟩ c5) p #[c0, c1, c2, c3, c4, c5] t := by
  simpa using (((((h.set 0 c0).set 1 c1).set 2 c2).set 3 c3).set 4 c4).set 5 c5
theorem heap_st6 (w : World) (p : Nat) {x : Nat} (hx : x ≠ p) (c0 c1 c2 c3 c4 c5 : Value) : ((((((w.setCell ⟨p, 0, none⟩ c0).setCell ⟨p, 1, none⟩ c1).setCell ⟨p, 2, none⟩ c2).setCell ⟨p, 3, none⟩ c3).setCell ⟨p, 4, none⟩ c4).setCell ⟨p, 5, none⟩ c5).heap[x]? = w.heap[x]? := by
  rw [Below.heap_setCell _ _ _ _ hx, Below.heap_setCell _ _ _ _ hx, Below.heap_setCell _ _ _ _ hx, Below.heap_setCell _ _ _ _ hx, Below.heap_setCell _ _ _ _ hx, Below.heap_setCell _ _ _ _ hx]
theorem below_st6 {B : Nat} {w0 w : World} (h : Below B w0 w) {p : Nat} (hp : B ≤ p) (c0 c1 c2 c3 c4 c5 : Value) : Below B w0 ((((((w.setCell ⟨p, 0, none⟩ c0).setCell ⟨p, 1, none⟩ c1).setCell ⟨p, 2, none⟩ c2).setCell ⟨p, 3, none⟩ c3).setCell ⟨p, 4, none⟩ c4).setCell ⟨p, 5, none⟩ c5) :=
  (((((h.setCell hp _).setCell hp _).setCell hp _).setCell hp _).setCell hp _).setCell hp _
theorem Blk.same {w w' : World} {b : Nat} {cs : Array Value} {t : TypeId} (h : Blk w b cs t) (e : w'.heap[b]? = w.heap[b]?) : Blk w' b cs t := e.trans h
/-- A play, as a value. -/
def PlayIn (w : World) (SV ST : Nat → Prop) (pv : Value) (r : Except Int (VT × (List Int × Nat))) : Prop := match r with
  | .error x => x ≠ 0 ∧ ∃ l n ad k cap tad tn tc a, pv = .agg #[.bool l, .int .i64 n, .slice ad k cap, .slice tad tn tc, .int .i64 a, .int .i64 x]
  | .ok (t, (tape, q)) => ∃ l n ad k cap tv, pv = .agg #[.bool l, .int .i64 n, .slice ad k cap, tv, .int .i64 (q : Nat), .int .i64 0] ∧ ValIn SV w (.agg #[.bool l, .int .i64 n, .slice ad k cap]) t ∧ IntsS w ST tv tape
/-- What Played answers. -/
def PlaysR (w : World) (S : Nat → Prop) (r : Except Int (VT × (List Int × Nat))) (e : Ending) (w' : World) : Prop := (∃ pv, e = .returned pv ∧ PlayIn w' (fun b => w.heap.size ≤ b) (fun b => S b ∨ w.heap.size ≤ b) pv r) ∧ Below w.heap.size w w'
section
variable {w : World} {a b : Int} {ad : Option Addr} {sn cap : Nat} {vl : Bool} {vn : Int} {vk vcap q : Nat} {vad : Option Addr} {l tape : List Int} {tad : Option Addr} {tcap tn : Nat} {lv : Value} {mend : Bool} {S : Nat → Prop}
set_option maxHeartbeats 1000000 in
theorem rplayed_err {k at1 x : Int} (hx : x ≠ 0) (hlv : ∃ a n c, lv = .slice a n c) : Calls Tryz.prog 66 #[.agg #[.int .i64 k, .int .i64 a, .int .i64 b, .slice ad sn cap], .agg #[.bool vl, .int .i64 vn, .slice vad vk vcap, .slice tad tn tcap, .int .i64 at1, .int .i64 x], lv, .bool mend] w fun e w' => e = .returned (.agg #[.bool vl, .int .i64 vn, .slice vad vk vcap, .slice tad tn tcap, .int .i64 at1, .int .i64 x]) ∧ Below w.heap.size w w' := by
  obtain ⟨la, ln, lc, rfl⟩ := hlv
  have hq : (x == 0) = false := by simpa using hx
  clear hx
  go_enter Tryz.func66, Tryz.ntmps66
  go_upto_region 1 with (fail)
  generalize hW : ((w.alloc (.cells #[.int .i64 k, .int .i64 a, .int .i64 b, .slice ad sn cap] 24)).alloc (.cells #[.bool vl, .int .i64 vn, .slice vad vk vcap, .slice tad tn tcap, .int .i64 at1, .int .i64 x] 110)).alloc (.cells #[.bool false, .int .i64 0, .slice none 0 0, .slice none 0 0, .int .i64 0, .int .i64 0] 110) = W0
  have hB0 : Below w.heap.size w W0 := by rw [← hW]; repeat (first | with_reducible assumption | with_reducible exact Below.refl _ _ | with_reducible apply Below.drew | (with_reducible refine Below.alloc ?_ (by first | omega | (simp only [zA, zS, zD, zN]; omega) | (dsimp only; omega) | (simp only [zA, zS, zD, zN]; dsimp only; omega)) _) | (with_reducible refine Below.setCell ?_ (by first | omega | (simp only [zA, zS, zD, zN]; omega) | (dsimp only; omega) | (simp only [zA, zS, zD, zN]; dsimp only; omega)) _) | (with_reducible apply below_drewN))
  have x0 : Blk W0 w.heap.size #[.int .i64 k, .int .i64 a, .int .i64 b, .slice ad sn cap] 24 := by rw [← hW]; exact ((Blk.new w #[.int .i64 k, .int .i64 a, .int .i64 b, .slice ad sn cap] 24).alloc _).alloc _
  have x1 : Blk W0 (w.heap.size + 1) #[.bool vl, .int .i64 vn, .slice vad vk vcap, .slice tad tn tcap, .int .i64 at1, .int .i64 x] 110 := by rw [← hW]; exact (show Blk (((w.alloc (.cells #[.int .i64 k, .int .i64 a, .int .i64 b, .slice ad sn cap] 24)).alloc (.cells #[.bool vl, .int .i64 vn, .slice vad vk vcap, .slice tad tn tcap, .int .i64 at1, .int .i64 x] 110))) (w.heap.size + 1) #[.bool vl, .int .i64 vn, .slice vad vk vcap, .slice tad tn tcap, .int .i64 at1, .int .i64 x] 110 by simpa using Blk.new (w.alloc (.cells #[.int .i64 k, .int .i64 a, .int .i64 b, .slice ad sn cap] 24)) #[.bool vl, .int .i64 vn, .slice vad vk vcap, .slice tad tn tcap, .int .i64 at1, .int .i64 x] 110).alloc _
  have x2 : Blk W0 (w.heap.size + 2) #[.bool false, .int .i64 0, .slice none 0 0, .slice none 0 0, .int .i64 0, .int .i64 0] 110 := by rw [← hW]; simpa using Blk.new ((w.alloc (.cells #[.int .i64 k, .int .i64 a, .int .i64 b, .slice ad sn cap] 24)).alloc (.cells #[.bool vl, .int .i64 vn, .slice vad vk vcap, .slice tad tn tcap, .int .i64 at1, .int .i64 x] 110)) #[.bool false, .int .i64 0, .slice none 0 0, .slice none 0 0, .int .i64 0, .int .i64 0] 110
  have hz0 : w.heap.size + 3 ≤ W0.heap.size := by have := x2.lt; omega
  clear hW
  have d0 := x1.cell 0
  have d1 := x1.cell 1
  have d2 := x1.cell 2
  have d3 := x1.cell 3
  have d4 := x1.cell 4
  have d5 := x1.cell 5
  simp only [List.getElem?_toArray, List.getElem?_cons_succ, List.getElem?_cons_zero] at d0 d1 d2 d3 d4 d5
  have e0 := x2.cell 0
  have e1 := x2.cell 1
  have e2 := x2.cell 2
  have e3 := x2.cell 3
  have e4 := x2.cell 4
  have e5 := x2.cell 5
  simp only [List.getElem?_toArray, List.getElem?_cons_succ, List.getElem?_cons_zero] at e0 e1 e2 e3 e4 e5
  have u0 := x2.unfrozen 0
  have u1 := x2.unfrozen 1
  have u2 := x2.unfrozen 2
  have u3 := x2.unfrozen 3
  have u4 := x2.unfrozen 4
  have u5 := x2.unfrozen 5
  go_wp2_with fail
  refine bodyPost_ret (v := .agg #[.bool vl, .int .i64 vn, .slice vad vk vcap, .slice tad tn tcap, .int .i64 at1, .int .i64 x]) (by simp [results, Tryz.results66, go_sem, d0, d1, d2, d3, d4, d5, e0, e1, e2, e3, e4, e5, u0, u1, u2, u3, u4, u5]) rfl ?_
  have hBF : Below w.heap.size w ((((((W0.setCell ⟨w.heap.size + 2, 0, none⟩ (.bool vl)).setCell ⟨w.heap.size + 2, 1, none⟩ (.int .i64 vn)).setCell ⟨w.heap.size + 2, 2, none⟩ (.slice vad vk vcap)).setCell ⟨w.heap.size + 2, 3, none⟩ (.slice tad tn tcap)).setCell ⟨w.heap.size + 2, 4, none⟩ (.int .i64 at1)).setCell ⟨w.heap.size + 2, 5, none⟩ (.int .i64 x)) := below_st6 hB0 (by omega) _ _ _ _ _ _
  have hKF : ∀ x, x ≠ w.heap.size + 2 → ((((((W0.setCell ⟨w.heap.size + 2, 0, none⟩ (.bool vl)).setCell ⟨w.heap.size + 2, 1, none⟩ (.int .i64 vn)).setCell ⟨w.heap.size + 2, 2, none⟩ (.slice vad vk vcap)).setCell ⟨w.heap.size + 2, 3, none⟩ (.slice tad tn tcap)).setCell ⟨w.heap.size + 2, 4, none⟩ (.int .i64 at1)).setCell ⟨w.heap.size + 2, 5, none⟩ (.int .i64 x)).heap[x]? = W0.heap[x]? := fun x hx => heap_st6 _ _ hx _ _ _ _ _ _
  have hZF : ((((((W0.setCell ⟨w.heap.size + 2, 0, none⟩ (.bool vl)).setCell ⟨w.heap.size + 2, 1, none⟩ (.int .i64 vn)).setCell ⟨w.heap.size + 2, 2, none⟩ (.slice vad vk vcap)).setCell ⟨w.heap.size + 2, 3, none⟩ (.slice tad tn tcap)).setCell ⟨w.heap.size + 2, 4, none⟩ (.int .i64 at1)).setCell ⟨w.heap.size + 2, 5, none⟩ (.int .i64 x)).heap.size = W0.heap.size := by simp only [size_setCell]
  exact ⟨rfl, hBF⟩
set_option maxHeartbeats 2000000 in
theorem rplayed_1 (ha0 : -1073741824 ≤ a) (ha1 : a ≤ 1073741824) (hlv : ∃ a n c, lv = .slice a n c) (ht : IntsS w S (.slice tad tn tcap) tape) : Calls Tryz.prog 66 #[.agg #[.int .i64 1, .int .i64 a, .int .i64 b, .slice ad sn cap], .agg #[.bool vl, .int .i64 vn, .slice vad vk vcap, .slice tad tn tcap, .int .i64 (q : Nat), .int .i64 0], lv, .bool mend] w (PlaysR w S (.ok (.mk false a [], (tape, q)))) := by
  obtain ⟨la, ln, lc, rfl⟩ := hlv
  have HT := Lib.hid ht
  clear ht
  go_enter Tryz.func66, Tryz.ntmps66
  go_upto_region 1 with (fail)
  generalize hW : ((w.alloc (.cells #[.int .i64 1, .int .i64 a, .int .i64 b, .slice ad sn cap] 24)).alloc (.cells #[.bool vl, .int .i64 vn, .slice vad vk vcap, .slice tad tn tcap, .int .i64 (q : Nat), .int .i64 0] 110)).alloc (.cells #[.bool false, .int .i64 0, .slice none 0 0, .slice none 0 0, .int .i64 0, .int .i64 0] 110) = W0
  have hB0 : Below w.heap.size w W0 := by rw [← hW]; repeat (first | with_reducible assumption | with_reducible exact Below.refl _ _ | with_reducible apply Below.drew | (with_reducible refine Below.alloc ?_ (by first | omega | (simp only [zA, zS, zD, zN]; omega) | (dsimp only; omega) | (simp only [zA, zS, zD, zN]; dsimp only; omega)) _) | (with_reducible refine Below.setCell ?_ (by first | omega | (simp only [zA, zS, zD, zN]; omega) | (dsimp only; omega) | (simp only [zA, zS, zD, zN]; dsimp only; omega)) _) | (with_reducible apply below_drewN))
  have x0 : Blk W0 w.heap.size #[.int .i64 1, .int .i64 a, .int .i64 b, .slice ad sn cap] 24 := by rw [← hW]; exact ((Blk.new w #[.int .i64 1, .int .i64 a, .int .i64 b, .slice ad sn cap] 24).alloc _).alloc _
  have x1 : Blk W0 (w.heap.size + 1) #[.bool vl, .int .i64 vn, .slice vad vk vcap, .slice tad tn tcap, .int .i64 (q : Nat), .int .i64 0] 110 := by rw [← hW]; exact (show Blk (((w.alloc (.cells #[.int .i64 1, .int .i64 a, .int .i64 b, .slice ad sn cap] 24)).alloc (.cells #[.bool vl, .int .i64 vn, .slice vad vk vcap, .slice tad tn tcap, .int .i64 (q : Nat), .int .i64 0] 110))) (w.heap.size + 1) #[.bool vl, .int .i64 vn, .slice vad vk vcap, .slice tad tn tcap, .int .i64 (q : Nat), .int .i64 0] 110 by simpa using Blk.new (w.alloc (.cells #[.int .i64 1, .int .i64 a, .int .i64 b, .slice ad sn cap] 24)) #[.bool vl, .int .i64 vn, .slice vad vk vcap, .slice tad tn tcap, .int .i64 (q : Nat), .int .i64 0] 110).alloc _
  have x2 : Blk W0 (w.heap.size + 2) #[.bool false, .int .i64 0, .slice none 0 0, .slice none 0 0, .int .i64 0, .int .i64 0] 110 := by rw [← hW]; simpa using Blk.new ((w.alloc (.cells #[.int .i64 1, .int .i64 a, .int .i64 b, .slice ad sn cap] 24)).alloc (.cells #[.bool vl, .int .i64 vn, .slice vad vk vcap, .slice tad tn tcap, .int .i64 (q : Nat), .int .i64 0] 110)) #[.bool false, .int .i64 0, .slice none 0 0, .slice none 0 0, .int .i64 0, .int .i64 0] 110
  have hz0 : w.heap.size + 3 ≤ W0.heap.size := by have := x2.lt; omega
  clear hW
  have g0 := x0.cell 0
  have g1 := x0.cell 1
  have g2 := x0.cell 2
  have g3 := x0.cell 3
  simp only [List.getElem?_toArray, List.getElem?_cons_succ, List.getElem?_cons_zero] at g0 g1 g2 g3
  have d0 := x1.cell 0
  have d1 := x1.cell 1
  have d2 := x1.cell 2
  have d3 := x1.cell 3
  have d4 := x1.cell 4
  have d5 := x1.cell 5
  simp only [List.getElem?_toArray, List.getElem?_cons_succ, List.getElem?_cons_zero] at d0 d1 d2 d3 d4 d5
  have u0 := x1.unfrozen 0
  have u1 := x1.unfrozen 1
  have u2 := x1.unfrozen 2
  have u3 := x1.unfrozen 3
  have u4 := x1.unfrozen 4
  have u5 := x1.unfrozen 5
  go_upto_region 6 with (fail)
  clear d0 d1 d2 d3 d4 d5 u0 u1 u2 u3 u4 u5
  generalize hW : (((W0.setCell ⟨w.heap.size + 1, 0, none⟩ (.bool false)).setCell ⟨w.heap.size + 1, 1, none⟩ (.int .i64 a)).setCell ⟨w.heap.size + 1, 2, none⟩ (.slice none 0 0)) = W1
  have hB1 : Below w.heap.size w W1 := by rw [← hW]; exact ((hB0.setCell (by simp) _).setCell (by simp) _).setCell (by simp) _
  have z1 : Blk W1 (w.heap.size + 1) #[.bool false, .int .i64 a, .slice none 0 0, .slice tad tn tcap, .int .i64 (q : Nat), .int .i64 0] 110 := by rw [← hW]; simpa using ((x1.set 0 (.bool false)).set 1 (.int .i64 a)).set 2 (.slice none 0 0)
  have fr1 : ∀ x, x ≠ w.heap.size + 1 → W1.heap[x]? = W0.heap[x]? := by intro x hx; rw [← hW, Below.heap_setCell _ _ _ _ hx, Below.heap_setCell _ _ _ _ hx, Below.heap_setCell _ _ _ _ hx]
  have z2 : Blk W1 (w.heap.size + 2) #[.bool false, .int .i64 0, .slice none 0 0, .slice none 0 0, .int .i64 0, .int .i64 0] 110 := x2.same (fr1 _ (by omega))
  have hzW1 : W1.heap.size = W0.heap.size := by rw [← hW]; simp only [size_setCell]
  clear hW
  have d0 := z1.cell 0
  have d1 := z1.cell 1
  have d2 := z1.cell 2
  have d3 := z1.cell 3
  have d4 := z1.cell 4
  have d5 := z1.cell 5
  simp only [List.getElem?_toArray, List.getElem?_cons_succ, List.getElem?_cons_zero] at d0 d1 d2 d3 d4 d5
  have e0 := z2.cell 0
  have e1 := z2.cell 1
  have e2 := z2.cell 2
  have e3 := z2.cell 3
  have e4 := z2.cell 4
  have e5 := z2.cell 5
  simp only [List.getElem?_toArray, List.getElem?_cons_succ, List.getElem?_cons_zero] at e0 e1 e2 e3 e4 e5
  have u0 := z2.unfrozen 0
  have u1 := z2.unfrozen 1
  have u2 := z2.unfrozen 2
  have u3 := z2.unfrozen 3
  have u4 := z2.unfrozen 4
  have u5 := z2.unfrozen 5
  go_wp2_with fail
  refine bodyPost_ret (v := .agg #[.bool false, .int .i64 a, .slice none 0 0, .slice tad tn tcap, .int .i64 (q : Nat), .int .i64 0]) (by simp [results, Tryz.results66, go_sem, d0, d1, d2, d3, d4, d5, e0, e1, e2, e3, e4, e5, u0, u1, u2, u3, u4, u5]) rfl ?_
  have hBF : Below w.heap.size w ((((((W1.setCell ⟨w.heap.size + 2, 0, none⟩ (.bool false)).setCell ⟨w.heap.size + 2, 1, none⟩ (.int .i64 a)).setCell ⟨w.heap.size + 2, 2, none⟩ (.slice none 0 0)).setCell ⟨w.heap.size + 2, 3, none⟩ (.slice tad tn tcap)).setCell ⟨w.heap.size + 2, 4, none⟩ (.int .i64 (q : Nat))).setCell ⟨w.heap.size + 2, 5, none⟩ (.int .i64 0)) := below_st6 hB1 (by omega) _ _ _ _ _ _
  have hKF : ∀ x, x ≠ w.heap.size + 2 → ((((((W1.setCell ⟨w.heap.size + 2, 0, none⟩ (.bool false)).setCell ⟨w.heap.size + 2, 1, none⟩ (.int .i64 a)).setCell ⟨w.heap.size + 2, 2, none⟩ (.slice none 0 0)).setCell ⟨w.heap.size + 2, 3, none⟩ (.slice tad tn tcap)).setCell ⟨w.heap.size + 2, 4, none⟩ (.int .i64 (q : Nat))).setCell ⟨w.heap.size + 2, 5, none⟩ (.int .i64 0)).heap[x]? = W1.heap[x]? := fun x hx => heap_st6 _ _ hx _ _ _ _ _ _
  have hZF : ((((((W1.setCell ⟨w.heap.size + 2, 0, none⟩ (.bool false)).setCell ⟨w.heap.size + 2, 1, none⟩ (.int .i64 a)).setCell ⟨w.heap.size + 2, 2, none⟩ (.slice none 0 0)).setCell ⟨w.heap.size + 2, 3, none⟩ (.slice tad tn tcap)).setCell ⟨w.heap.size + 2, 4, none⟩ (.int .i64 (q : Nat))).setCell ⟨w.heap.size + 2, 5, none⟩ (.int .i64 0)).heap.size = W1.heap.size := by simp only [size_setCell]
  refine ⟨⟨_, rfl, _, _, _, _, _, _, rfl, ValIn.leaf _ _ ⟨by omega, by omega⟩, ?_⟩, hBF⟩
  refine IntsS.reads.keep HT.out (by have := hBF.size; exact this) (fun x hs hlt => ⟨.inl hs, ?_⟩)
  exact hBF.block x hlt
theorem stC_err {mend : Bool} {l : List Int} {m : Int} {q : List Int × Nat} {x : Int} (h : stC mend l m q = .error x) : x ≠ 0 := by
  unfold stC at h
  dsimp only at h
  by_cases h1 : ¬ q.2 < l.length ∧ mend = false
  · rw [if_pos h1] at h
    injection h with h
    omega
  · rw [if_neg h1] at h
    generalize (if mend = true then max 0 (min (l.getD q.2 0) m) else l.getD q.2 0) = y at h
    by_cases h2 : y < 0 ∨ m < y
    · rw [if_pos h2] at h
      injection h with h
      omega
    · rw [if_neg h2] at h
      cases h
theorem stC_bd {mend : Bool} {l : List Int} {m : Int} {q : List Int × Nat} {c : Int} {q1 : List Int × Nat} (h : stC mend l m q = .ok (c, q1)) : 0 ≤ c ∧ c ≤ m ∧ q1 = (q.1 ++ [c], q.2 + 1) := by
  unfold stC at h
  dsimp only at h
  by_cases h1 : ¬ q.2 < l.length ∧ mend = false
  · rw [if_pos h1] at h
    cases h
  · rw [if_neg h1] at h
    generalize (if mend = true then max 0 (min (l.getD q.2 0) m) else l.getD q.2 0) = y at h
    by_cases h2 : y < 0 ∨ m < y
    · rw [if_pos h2] at h
      cases h
    · rw [if_neg h2] at h
      injection h with h
      simp only [Prod.mk.injEq] at h
      obtain ⟨h3, h4⟩ := h
      rw [← h4, h3]
      exact ⟨by omega, by omega, rfl⟩
/-- A number, by a choice. -/
def intR (a : Int) (r : Except Int (Int × (List Int × Nat))) : Except Int (VT × (List Int × Nat)) := match r with
  | .error x => .error x
  | .ok (c, q1) => .ok (.mk false (a + c) [], q1)
set_option maxHeartbeats 4000000 in
theorem rplayed_2 {R : Except Int (VT × (List Int × Nat))} (HR : Hid (R = intR a (stC mend l (b - a) (tape, q)))) (hl : IntsAt w lv l) (ht : IntsS w S (.slice tad tn tcap) tape) (hq : q + 1 ≤ 1099511627776) (hn : tape.length + 1 ≤ 1099511627776) (h0 : -1073741824 ≤ a) (h1 : b ≤ 1073741824) (h2 : a ≤ b) (h3 : b - a ≤ 1000) : Calls Tryz.prog 66 #[.agg #[.int .i64 2, .int .i64 a, .int .i64 b, .slice ad sn cap], .agg #[.bool vl, .int .i64 vn, .slice vad vk vcap, .slice tad tn tcap, .int .i64 (q : Nat), .int .i64 0], lv, .bool mend] w (PlaysR w S (R)) := by
  obtain ⟨lad, lcap, rfl, _⟩ := hl.form
  have HT := Lib.hid ht
  have HM0 : Hid (0 ≤ b - a) := by show _ ≤ _; omega
  have HM1 : Hid (b - a ≤ 1000) := h3
  go_enter Tryz.func66, Tryz.ntmps66
  go_upto_region 1 with (fail)
  generalize hW : ((w.alloc (.cells #[.int .i64 2, .int .i64 a, .int .i64 b, .slice ad sn cap] 24)).alloc (.cells #[.bool vl, .int .i64 vn, .slice vad vk vcap, .slice tad tn tcap, .int .i64 (q : Nat), .int .i64 0] 110)).alloc (.cells #[.bool false, .int .i64 0, .slice none 0 0, .slice none 0 0, .int .i64 0, .int .i64 0] 110) = W0
  have hB0 : Below w.heap.size w W0 := by rw [← hW]; repeat (first | with_reducible assumption | with_reducible exact Below.refl _ _ | with_reducible apply Below.drew | (with_reducible refine Below.alloc ?_ (by first | omega | (simp only [zA, zS, zD, zN]; omega) | (dsimp only; omega) | (simp only [zA, zS, zD, zN]; dsimp only; omega)) _) | (with_reducible refine Below.setCell ?_ (by first | omega | (simp only [zA, zS, zD, zN]; omega) | (dsimp only; omega) | (simp only [zA, zS, zD, zN]; dsimp only; omega)) _) | (with_reducible apply below_drewN))
  have x0 : Blk W0 w.heap.size #[.int .i64 2, .int .i64 a, .int .i64 b, .slice ad sn cap] 24 := by rw [← hW]; exact ((Blk.new w #[.int .i64 2, .int .i64 a, .int .i64 b, .slice ad sn cap] 24).alloc _).alloc _
  have x1 : Blk W0 (w.heap.size + 1) #[.bool vl, .int .i64 vn, .slice vad vk vcap, .slice tad tn tcap, .int .i64 (q : Nat), .int .i64 0] 110 := by rw [← hW]; exact (show Blk (((w.alloc (.cells #[.int .i64 2, .int .i64 a, .int .i64 b, .slice ad sn cap] 24)).alloc (.cells #[.bool vl, .int .i64 vn, .slice vad vk vcap, .slice tad tn tcap, .int .i64 (q : Nat), .int .i64 0] 110))) (w.heap.size + 1) #[.bool vl, .int .i64 vn, .slice vad vk vcap, .slice tad tn tcap, .int .i64 (q : Nat), .int .i64 0] 110 by simpa using Blk.new (w.alloc (.cells #[.int .i64 2, .int .i64 a, .int .i64 b, .slice ad sn cap] 24)) #[.bool vl, .int .i64 vn, .slice vad vk vcap, .slice tad tn tcap, .int .i64 (q : Nat), .int .i64 0] 110).alloc _
  have x2 : Blk W0 (w.heap.size + 2) #[.bool false, .int .i64 0, .slice none 0 0, .slice none 0 0, .int .i64 0, .int .i64 0] 110 := by rw [← hW]; simpa using Blk.new ((w.alloc (.cells #[.int .i64 2, .int .i64 a, .int .i64 b, .slice ad sn cap] 24)).alloc (.cells #[.bool vl, .int .i64 vn, .slice vad vk vcap, .slice tad tn tcap, .int .i64 (q : Nat), .int .i64 0] 110)) #[.bool false, .int .i64 0, .slice none 0 0, .slice none 0 0, .int .i64 0, .int .i64 0] 110
  have hz0 : w.heap.size + 3 ≤ W0.heap.size := by have := x2.lt; omega
  clear hW
  have g0 := x0.cell 0
  have g1 := x0.cell 1
  have g2 := x0.cell 2
  have g3 := x0.cell 3
  simp only [List.getElem?_toArray, List.getElem?_cons_succ, List.getElem?_cons_zero] at g0 g1 g2 g3
  have f0 := x1.cell 0
  have f1 := x1.cell 1
  have f2 := x1.cell 2
  have f3 := x1.cell 3
  have f4 := x1.cell 4
  have f5 := x1.cell 5
  simp only [List.getElem?_toArray, List.getElem?_cons_succ, List.getElem?_cons_zero] at f0 f1 f2 f3 f4 f5
  go_wp2_with fail
  refine (rchoice_any mend (hl.ext hB0) (ht.at.ext hB0) HM0.out HM1.out (by omega) (by omega)).mono ?_
  rintro e W1 he
  clear f0 f1 f2 f3 f4 f5 g0 g1 g2 g3
  generalize hst : stC mend l (b - a) (tape, q) = r at *
  have HST := Lib.hid hst
  clear hst hl ht
  cases r with
  | error x =>
    obtain ⟨rfl, hb⟩ := he
    have hxn := stC_err HST.out
    have HRX := Lib.hid HR.out
    have hB1 : Below w.heap.size w W1 := hB0.trans (hb.mono hB0.size)
    have y0 := x0.ext hb
    have y1 := x1.ext hb
    have y2 := x2.ext hb
    have hzb := hb.size
    have f0 := y1.cell 0
    have f1 := y1.cell 1
    have f2 := y1.cell 2
    have f3 := y1.cell 3
    have f4 := y1.cell 4
    have f5 := y1.cell 5
    simp only [List.getElem?_toArray, List.getElem?_cons_succ, List.getElem?_cons_zero] at f0 f1 f2 f3 f4 f5
    have u0 := y1.unfrozen 0
    have u1 := y1.unfrozen 1
    have u2 := y1.unfrozen 2
    have u3 := y1.unfrozen 3
    have u4 := y1.unfrozen 4
    have u5 := y1.unfrozen 5
    go_upto_region 9 with (fail)
    clear f0 f1 f2 f3 f4 f5 u0 u1 u2 u3 u4 u5
    generalize hW : ((((((W1.setCell ⟨w.heap.size + 1, 0, none⟩ (.bool vl)).setCell ⟨w.heap.size + 1, 1, none⟩ (.int .i64 vn)).setCell ⟨w.heap.size + 1, 2, none⟩ (.slice vad vk vcap)).setCell ⟨w.heap.size + 1, 3, none⟩ (.slice tad tn tcap)).setCell ⟨w.heap.size + 1, 4, none⟩ (.int .i64 (q : Nat))).setCell ⟨w.heap.size + 1, 5, none⟩ (.int .i64 x)) = W2
    have hB2 : Below w.heap.size w W2 := by rw [← hW]; exact below_st6 hB1 (by omega) _ _ _ _ _ _
    have z1 : Blk W2 (w.heap.size + 1) #[.bool vl, .int .i64 vn, .slice vad vk vcap, .slice tad tn tcap, .int .i64 (q : Nat), .int .i64 x] 110 := by rw [← hW]; exact set6 y1 _ _ _ _ _ _
    have fr2 : ∀ x, x ≠ w.heap.size + 1 → W2.heap[x]? = W1.heap[x]? := by intro x hx; rw [← hW]; exact heap_st6 _ _ hx _ _ _ _ _ _
    have z2 : Blk W2 (w.heap.size + 2) #[.bool false, .int .i64 0, .slice none 0 0, .slice none 0 0, .int .i64 0, .int .i64 0] 110 := y2.same (fr2 _ (by omega))
    have z0 : Blk W2 w.heap.size #[.int .i64 2, .int .i64 a, .int .i64 b, .slice ad sn cap] 24 := y0.same (fr2 _ (by omega))
    have hzW2 : W2.heap.size = W1.heap.size := by rw [← hW]; simp only [size_setCell]
    clear hW
    have g0 := z0.cell 0
    have g1 := z0.cell 1
    have g2 := z0.cell 2
    have g3 := z0.cell 3
    simp only [List.getElem?_toArray, List.getElem?_cons_succ, List.getElem?_cons_zero] at g0 g1 g2 g3
    have d0 := z1.cell 0
    have d1 := z1.cell 1
    have d2 := z1.cell 2
    have d3 := z1.cell 3
    have d4 := z1.cell 4
    have d5 := z1.cell 5
    simp only [List.getElem?_toArray, List.getElem?_cons_succ, List.getElem?_cons_zero] at d0 d1 d2 d3 d4 d5
    have u0 := z1.unfrozen 0
    have u1 := z1.unfrozen 1
    have u2 := z1.unfrozen 2
    have u3 := z1.unfrozen 3
    have u4 := z1.unfrozen 4
    have u5 := z1.unfrozen 5
    go_upto_region 10 with (fail)
    clear d0 d1 d2 d3 d4 d5 u0 u1 u2 u3 u4 u5
    generalize hW : (((W2.setCell ⟨w.heap.size + 1, 0, none⟩ (.bool false)).setCell ⟨w.heap.size + 1, 1, none⟩ (.int .i64 (a))).setCell ⟨w.heap.size + 1, 2, none⟩ (.slice none 0 0)) = W3
    have hB3 : Below w.heap.size w W3 := by rw [← hW]; exact ((hB2.setCell (by simp) _).setCell (by simp) _).setCell (by simp) _
    have v1 : Blk W3 (w.heap.size + 1) #[.bool false, .int .i64 (a), .slice none 0 0, .slice tad tn tcap, .int .i64 (q : Nat), .int .i64 x] 110 := by rw [← hW]; simpa using ((z1.set 0 (.bool false)).set 1 (.int .i64 (a))).set 2 (.slice none 0 0)
    have fr3 : ∀ x, x ≠ w.heap.size + 1 → W3.heap[x]? = W2.heap[x]? := by intro x hx; rw [← hW, Below.heap_setCell _ _ _ _ hx, Below.heap_setCell _ _ _ _ hx, Below.heap_setCell _ _ _ _ hx]
    have v2 : Blk W3 (w.heap.size + 2) #[.bool false, .int .i64 0, .slice none 0 0, .slice none 0 0, .int .i64 0, .int .i64 0] 110 := z2.same (fr3 _ (by omega))
    have hzW3 : W3.heap.size = W2.heap.size := by rw [← hW]; simp only [size_setCell]
    clear hW
    have d0 := v1.cell 0
    have d1 := v1.cell 1
    have d2 := v1.cell 2
    have d3 := v1.cell 3
    have d4 := v1.cell 4
    have d5 := v1.cell 5
    simp only [List.getElem?_toArray, List.getElem?_cons_succ, List.getElem?_cons_zero] at d0 d1 d2 d3 d4 d5
    have e0 := v2.cell 0
    have e1 := v2.cell 1
    have e2 := v2.cell 2
    have e3 := v2.cell 3
    have e4 := v2.cell 4
    have e5 := v2.cell 5
    simp only [List.getElem?_toArray, List.getElem?_cons_succ, List.getElem?_cons_zero] at e0 e1 e2 e3 e4 e5
    have u0 := v2.unfrozen 0
    have u1 := v2.unfrozen 1
    have u2 := v2.unfrozen 2
    have u3 := v2.unfrozen 3
    have u4 := v2.unfrozen 4
    have u5 := v2.unfrozen 5
    go_wp2_with fail
    refine bodyPost_ret (v := .agg #[.bool false, .int .i64 (a), .slice none 0 0, .slice tad tn tcap, .int .i64 (q : Nat), .int .i64 x]) (by simp [results, Tryz.results66, go_sem, d0, d1, d2, d3, d4, d5, e0, e1, e2, e3, e4, e5, u0, u1, u2, u3, u4, u5]) rfl ?_
    have hBF : Below w.heap.size w ((((((W3.setCell ⟨w.heap.size + 2, 0, none⟩ (.bool false)).setCell ⟨w.heap.size + 2, 1, none⟩ (.int .i64 (a))).setCell ⟨w.heap.size + 2, 2, none⟩ (.slice none 0 0)).setCell ⟨w.heap.size + 2, 3, none⟩ (.slice tad tn tcap)).setCell ⟨w.heap.size + 2, 4, none⟩ (.int .i64 (q : Nat))).setCell ⟨w.heap.size + 2, 5, none⟩ (.int .i64 x)) := below_st6 hB3 (by omega) _ _ _ _ _ _
    have hKF : ∀ x, x ≠ w.heap.size + 2 → ((((((W3.setCell ⟨w.heap.size + 2, 0, none⟩ (.bool false)).setCell ⟨w.heap.size + 2, 1, none⟩ (.int .i64 (a))).setCell ⟨w.heap.size + 2, 2, none⟩ (.slice none 0 0)).setCell ⟨w.heap.size + 2, 3, none⟩ (.slice tad tn tcap)).setCell ⟨w.heap.size + 2, 4, none⟩ (.int .i64 (q : Nat))).setCell ⟨w.heap.size + 2, 5, none⟩ (.int .i64 x)).heap[x]? = W3.heap[x]? := fun x hx => heap_st6 _ _ hx _ _ _ _ _ _
    have hZF : ((((((W3.setCell ⟨w.heap.size + 2, 0, none⟩ (.bool false)).setCell ⟨w.heap.size + 2, 1, none⟩ (.int .i64 (a))).setCell ⟨w.heap.size + 2, 2, none⟩ (.slice none 0 0)).setCell ⟨w.heap.size + 2, 3, none⟩ (.slice tad tn tcap)).setCell ⟨w.heap.size + 2, 4, none⟩ (.int .i64 (q : Nat))).setCell ⟨w.heap.size + 2, 5, none⟩ (.int .i64 x)).heap.size = W3.heap.size := by simp only [size_setCell]
    rw [HRX.out]
    exact ⟨⟨_, rfl, hxn, _, _, _, _, _, _, _, _, _, rfl⟩, hBF⟩
  | ok r =>
    obtain ⟨c, tape1, q1⟩ := r
    obtain ⟨⟨tv', rfl, hS1⟩, hb⟩ := he
    obtain ⟨hc0, hc1, hq1⟩ := stC_bd HST.out
    have HRX := Lib.hid HR.out
    obtain ⟨h64, ad1, cap1, rfl, hS1'⟩ := hS1
    have HS1 : Hid (IntsS W1 (fun b => W0.heap.size ≤ b) (.slice ad1 tape1.length cap1) tape1) := ⟨h64, ad1, cap1, rfl, hS1'⟩
    clear h64 hS1'
    have hB1 : Below w.heap.size w W1 := hB0.trans (hb.mono hB0.size)
    have y0 := x0.ext hb
    have y1 := x1.ext hb
    have y2 := x2.ext hb
    have hzb := hb.size
    have f0 := y1.cell 0
    have f1 := y1.cell 1
    have f2 := y1.cell 2
    have f3 := y1.cell 3
    have f4 := y1.cell 4
    have f5 := y1.cell 5
    simp only [List.getElem?_toArray, List.getElem?_cons_succ, List.getElem?_cons_zero] at f0 f1 f2 f3 f4 f5
    have u0 := y1.unfrozen 0
    have u1 := y1.unfrozen 1
    have u2 := y1.unfrozen 2
    have u3 := y1.unfrozen 3
    have u4 := y1.unfrozen 4
    have u5 := y1.unfrozen 5
    go_upto_region 9 with (fail)
    clear f0 f1 f2 f3 f4 f5 u0 u1 u2 u3 u4 u5
    generalize hW : ((((((W1.setCell ⟨w.heap.size + 1, 0, none⟩ (.bool vl)).setCell ⟨w.heap.size + 1, 1, none⟩ (.int .i64 vn)).setCell ⟨w.heap.size + 1, 2, none⟩ (.slice vad vk vcap)).setCell ⟨w.heap.size + 1, 3, none⟩ (.slice ad1 (tape1.length) cap1)).setCell ⟨w.heap.size + 1, 4, none⟩ (.int .i64 (q1 : Nat))).setCell ⟨w.heap.size + 1, 5, none⟩ (.int .i64 0)) = W2
    have hB2 : Below w.heap.size w W2 := by rw [← hW]; exact below_st6 hB1 (by omega) _ _ _ _ _ _
    have z1 : Blk W2 (w.heap.size + 1) #[.bool vl, .int .i64 vn, .slice vad vk vcap, .slice ad1 (tape1.length) cap1, .int .i64 (q1 : Nat), .int .i64 0] 110 := by rw [← hW]; exact set6 y1 _ _ _ _ _ _
    have fr2 : ∀ x, x ≠ w.heap.size + 1 → W2.heap[x]? = W1.heap[x]? := by intro x hx; rw [← hW]; exact heap_st6 _ _ hx _ _ _ _ _ _
    have z2 : Blk W2 (w.heap.size + 2) #[.bool false, .int .i64 0, .slice none 0 0, .slice none 0 0, .int .i64 0, .int .i64 0] 110 := y2.same (fr2 _ (by omega))
    have z0 : Blk W2 w.heap.size #[.int .i64 2, .int .i64 a, .int .i64 b, .slice ad sn cap] 24 := y0.same (fr2 _ (by omega))
    have hzW2 : W2.heap.size = W1.heap.size := by rw [← hW]; simp only [size_setCell]
    clear hW
    have g0 := z0.cell 0
    have g1 := z0.cell 1
    have g2 := z0.cell 2
    have g3 := z0.cell 3
    simp only [List.getElem?_toArray, List.getElem?_cons_succ, List.getElem?_cons_zero] at g0 g1 g2 g3
    have d0 := z1.cell 0
    have d1 := z1.cell 1
    have d2 := z1.cell 2
    have d3 := z1.cell 3
    have d4 := z1.cell 4
    have d5 := z1.cell 5
    simp only [List.getElem?_toArray, List.getElem?_cons_succ, List.getElem?_cons_zero] at d0 d1 d2 d3 d4 d5
    have u0 := z1.unfrozen 0
    have u1 := z1.unfrozen 1
    have u2 := z1.unfrozen 2
    have u3 := z1.unfrozen 3
    have u4 := z1.unfrozen 4
    have u5 := z1.unfrozen 5
    go_upto_region 10 with (fail)
    clear d0 d1 d2 d3 d4 d5 u0 u1 u2 u3 u4 u5
    generalize hW : (((W2.setCell ⟨w.heap.size + 1, 0, none⟩ (.bool false)).setCell ⟨w.heap.size + 1, 1, none⟩ (.int .i64 (a + c))).setCell ⟨w.heap.size + 1, 2, none⟩ (.slice none 0 0)) = W3
    have hB3 : Below w.heap.size w W3 := by rw [← hW]; exact ((hB2.setCell (by simp) _).setCell (by simp) _).setCell (by simp) _
    have v1 : Blk W3 (w.heap.size + 1) #[.bool false, .int .i64 (a + c), .slice none 0 0, .slice ad1 (tape1.length) cap1, .int .i64 (q1 : Nat), .int .i64 0] 110 := by rw [← hW]; simpa using ((z1.set 0 (.bool false)).set 1 (.int .i64 (a + c))).set 2 (.slice none 0 0)
    have fr3 : ∀ x, x ≠ w.heap.size + 1 → W3.heap[x]? = W2.heap[x]? := by intro x hx; rw [← hW, Below.heap_setCell _ _ _ _ hx, Below.heap_setCell _ _ _ _ hx, Below.heap_setCell _ _ _ _ hx]
    have v2 : Blk W3 (w.heap.size + 2) #[.bool false, .int .i64 0, .slice none 0 0, .slice none 0 0, .int .i64 0, .int .i64 0] 110 := z2.same (fr3 _ (by omega))
    have hzW3 : W3.heap.size = W2.heap.size := by rw [← hW]; simp only [size_setCell]
    clear hW
    have d0 := v1.cell 0
    have d1 := v1.cell 1
    have d2 := v1.cell 2
    have d3 := v1.cell 3
    have d4 := v1.cell 4
    have d5 := v1.cell 5
    simp only [List.getElem?_toArray, List.getElem?_cons_succ, List.getElem?_cons_zero] at d0 d1 d2 d3 d4 d5
    have e0 := v2.cell 0
    have e1 := v2.cell 1
    have e2 := v2.cell 2
    have e3 := v2.cell 3
    have e4 := v2.cell 4
    have e5 := v2.cell 5
    simp only [List.getElem?_toArray, List.getElem?_cons_succ, List.getElem?_cons_zero] at e0 e1 e2 e3 e4 e5
    have u0 := v2.unfrozen 0
    have u1 := v2.unfrozen 1
    have u2 := v2.unfrozen 2
    have u3 := v2.unfrozen 3
    have u4 := v2.unfrozen 4
    have u5 := v2.unfrozen 5
    go_wp2_with fail
    refine bodyPost_ret (v := .agg #[.bool false, .int .i64 (a + c), .slice none 0 0, .slice ad1 (tape1.length) cap1, .int .i64 (q1 : Nat), .int .i64 0]) (by simp [results, Tryz.results66, go_sem, d0, d1, d2, d3, d4, d5, e0, e1, e2, e3, e4, e5, u0, u1, u2, u3, u4, u5]) rfl ?_
    have hBF : Below w.heap.size w ((((((W3.setCell ⟨w.heap.size + 2, 0, none⟩ (.bool false)).setCell ⟨w.heap.size + 2, 1, none⟩ (.int .i64 (a + c))).setCell ⟨w.heap.size + 2, 2, none⟩ (.slice none 0 0)).setCell ⟨w.heap.size + 2, 3, none⟩ (.slice ad1 (tape1.length) cap1)).setCell ⟨w.heap.size + 2, 4, none⟩ (.int .i64 (q1 : Nat))).setCell ⟨w.heap.size + 2, 5, none⟩ (.int .i64 0)) := below_st6 hB3 (by omega) _ _ _ _ _ _
    have hKF : ∀ x, x ≠ w.heap.size + 2 → ((((((W3.setCell ⟨w.heap.size + 2, 0, none⟩ (.bool false)).setCell ⟨w.heap.size + 2, 1, none⟩ (.int .i64 (a + c))).setCell ⟨w.heap.size + 2, 2, none⟩ (.slice none 0 0)).setCell ⟨w.heap.size + 2, 3, none⟩ (.slice ad1 (tape1.length) cap1)).setCell ⟨w.heap.size + 2, 4, none⟩ (.int .i64 (q1 : Nat))).setCell ⟨w.heap.size + 2, 5, none⟩ (.int .i64 0)).heap[x]? = W3.heap[x]? := fun x hx => heap_st6 _ _ hx _ _ _ _ _ _
    have hZF : ((((((W3.setCell ⟨w.heap.size + 2, 0, none⟩ (.bool false)).setCell ⟨w.heap.size + 2, 1, none⟩ (.int .i64 (a + c))).setCell ⟨w.heap.size + 2, 2, none⟩ (.slice none 0 0)).setCell ⟨w.heap.size + 2, 3, none⟩ (.slice ad1 (tape1.length) cap1)).setCell ⟨w.heap.size + 2, 4, none⟩ (.int .i64 (q1 : Nat))).setCell ⟨w.heap.size + 2, 5, none⟩ (.int .i64 0)).heap.size = W3.heap.size := by simp only [size_setCell]
    rw [HRX.out]
    refine ⟨⟨_, rfl, _, _, _, _, _, _, rfl, ValIn.leaf _ _ ⟨by omega, by omega⟩, ?_⟩, hBF⟩
    refine IntsS.reads.keep HS1.out (by rw [hZF, hzW3, hzW2]; exact Nat.le_refl _) (fun x hs hlt => ⟨.inr (by omega), ?_⟩)
    rw [hKF x (by omega), fr3 x (by omega), fr2 x (by omega)]
end
end Go.Proofs.YtibmnifenfingaaGreatDoor
