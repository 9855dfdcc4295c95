/- The walks through the document's answers on expressions: what one tells of a value. -/
import Derived.Test.YtibmnifenfingaaGreatDoorRX2
import Derived.Test.YtibmnifenfingaaGreatDoorREG
import Derived.Test.YtibmnifenfingaaGreatDoorEXB
namespace Go.Proofs.YtibmnifenfingaaGreatDoor
set_option maxRecDepth 100000
open Go.RowKit
set_option linter.unusedSimpArgs false
set_option linter.unusedVariables false
theorem rone_any (b : Bool) (w : World) : Calls Tryz.prog 84 #[.bool b] w fun e w' => e = .returned (.int .i64 (truth b)) ∧ w = w' := by
  cases b with
  | true =>
    go_enter Tryz.func84, Tryz.ntmps84
    go_wp2_with fail
    go_ret
    exact ⟨rfl, rfl⟩
  | false =>
    go_enter Tryz.func84, Tryz.ntmps84
    go_wp2_with fail
    go_ret
    exact ⟨rfl, rfl⟩
theorem sumW_step (L : List Int) (j : Nat) (h : j < L.length) : sumW 0 (L.take (j + 1)) = wrap64 (sumW 0 (L.take j) + L.getD j 0) := by
  rw [List.take_add_one, List.getElem?_eq_getElem h, sumW_append]
  simp [sumW, List.getD_eq_getElem?_getD, h]
theorem topW_some (L : List Int) : ∀ r : Int × Bool, (topW r L).2 = (r.2 || !L.isEmpty) := by
  induction L with
  | nil => intro r; simp [topW]
  | cons x L ih =>
    intro r
    simp only [topW]
    rw [ih]
    obtain ⟨a, b⟩ := r
    cases b <;> simp
    split <;> simp
theorem topW_step (L : List Int) (j : Nat) (h : j < L.length) : (topW (0, false) (L.take (j + 1))).1 = if j = 0 ∨ (topW (0, false) (L.take j)).1 < L.getD j 0 then L.getD j 0 else (topW (0, false) (L.take j)).1 := by
  have hs := topW_some (L.take j) (0, false)
  rw [List.take_add_one, List.getElem?_eq_getElem h, topW_append]
  have e : L.getD j 0 = L[j] := by simp [List.getD_eq_getElem?_getD, h]
  rw [e]
  by_cases hj : j = 0
  · subst hj
    simp [topW]
  · have hne : (L.take j).isEmpty = false := by
      cases hL : L.take j with
      | nil => have := congrArg List.length hL; rw [List.length_take] at this; simp only [List.length_nil] at this; omega
      | cons x l => rfl
    rw [hne] at hs
    simp only [Bool.false_or, Bool.not_false] at hs
    generalize topW (0, false) (L.take j) = r at *
    obtain ⟨a, b⟩ := r
    simp only at hs
    subst hs
    simp only [Option.toList_some, topW, Bool.true_eq_false, false_or, hj]
    split <;> rfl
/-- A number, or that there is none. -/
def TldR (r : Option Int) (w : World) (e : Ending) (w' : World) : Prop := e = .returned (.tuple #[.int .i64 (r.getD 0), .bool r.isSome]) ∧ Below w.heap.size w w'
/-- One of what lies in an expression: its cells, what is told of it. -/
def SubR (w : World) (i : Nat) (ad : Option Addr) (vv : Value) (r : Option Int) : Prop := ∃ bl off k2 n2 t2 ad2 cap2, ad = some ⟨bl, off, none⟩ ∧ bl < w.heap.size ∧ w.cell? ⟨bl, off + i * 3, none⟩ = some (.int .i64 k2) ∧ w.cell? ⟨bl, off + i * 3 + 1, none⟩ = some (.int .i64 n2) ∧ w.cell? ⟨bl, off + i * 3 + 2, none⟩ = some (.slice ad2 t2 cap2) ∧
  ∀ W, Below w.heap.size w W → Calls Tryz.prog 67 #[.agg #[.int .i64 k2, .int .i64 n2, .slice ad2 t2 cap2], vv] W (TldR r W)
def LvR (w : World) (vv : Value) (L : List Int) : Prop := ∀ W, Below w.heap.size w W → Calls Tryz.prog 83 #[vv] W fun e w' => (∃ lv, e = .returned lv ∧ IntsS w' (fun b => W.heap.size ≤ b) lv L) ∧ Below W.heap.size W w'
section
variable {w : World} {ad vad : Option Addr} {n vn : Int} {vl : Bool} {sn scap vk vcap : Nat} {L : List Int} {r0 r1 : Option Int}
set_option maxHeartbeats 2000000 in
theorem rtold_lit (HL : Hid (LvR w (.agg #[.bool vl, .int .i64 vn, .slice vad vk vcap]) L)) :
    Calls Tryz.prog 67 #[.agg #[.int .i64 1, .int .i64 n, .slice ad sn scap], .agg #[.bool vl, .int .i64 vn, .slice vad vk vcap]] w (TldR (some n) w) := by
  go_enter Tryz.func67, Tryz.ntmps67
  go_wp2_with fail
  refine (HL.out _ (by repeat (first | with_reducible assumption | with_reducible exact Below.refl _ _ | with_reducible apply Below.drew | (with_reducible refine Below.alloc ?_ (by first | omega | (simp only [zA, zS, zD, zN]; omega) | (dsimp only; omega) | (simp only [zA, zS, zD, zN]; dsimp only; omega)) _) | (with_reducible refine Below.setCell ?_ (by first | omega | (simp only [zA, zS, zD, zN]; omega) | (dsimp only; omega) | (simp only [zA, zS, zD, zN]; dsimp only; omega)) _) | (with_reducible apply below_drewN)))).mono ?_
  rintro e W1 ⟨⟨lv, rfl, hlv⟩, hb⟩
  have x0 : Blk W1 w.heap.size #[.int .i64 1, .int .i64 n, .slice ad sn scap] 27 := ((Blk.new w #[.int .i64 1, .int .i64 n, .slice ad sn scap] 27).alloc _).ext hb
  have x1 : Blk W1 (w.heap.size + 1) #[.bool vl, .int .i64 vn, .slice vad vk vcap] 45 := (show Blk _ _ _ _ by simpa using Blk.new (w.alloc (.cells #[.int .i64 1, .int .i64 n, .slice ad sn scap] 27)) #[.bool vl, .int .i64 vn, .slice vad vk vcap] 45).ext hb
  have hB1 : Below w.heap.size w W1 := Below.trans (by repeat (first | with_reducible assumption | with_reducible exact Below.refl _ _ | with_reducible apply Below.drew | (with_reducible refine Below.alloc ?_ (by first | omega | (simp only [zA, zS, zD, zN]; omega) | (dsimp only; omega) | (simp only [zA, zS, zD, zN]; dsimp only; omega)) _) | (with_reducible refine Below.setCell ?_ (by first | omega | (simp only [zA, zS, zD, zN]; omega) | (dsimp only; omega) | (simp only [zA, zS, zD, zN]; dsimp only; omega)) _) | (with_reducible apply below_drewN))) (hb.mono (by first | omega | (simp only [zA, zS, zD, zN]; omega) | (dsimp only; omega) | (simp only [zA, zS, zD, zN]; dsimp only; omega)))
  clear hb
  have f0 := x0.cell 0
  have f1 := x0.cell 1
  have f2 := x0.cell 2
  simp only [List.getElem?_toArray, List.getElem?_cons_succ, List.getElem?_cons_zero] at f0 f1 f2
  have g0 := x1.cell 0
  have g1 := x1.cell 1
  have g2 := x1.cell 2
  simp only [List.getElem?_toArray, List.getElem?_cons_succ, List.getElem?_cons_zero] at g0 g1 g2
  go_wp2_with fail
  go_ret2
  exact ⟨rfl, hB1⟩
set_option maxHeartbeats 2000000 in
theorem rtold_len (HL : Hid (LvR w (.agg #[.bool vl, .int .i64 vn, .slice vad vk vcap]) L)) :
    Calls Tryz.prog 67 #[.agg #[.int .i64 4, .int .i64 n, .slice ad sn scap], .agg #[.bool vl, .int .i64 vn, .slice vad vk vcap]] w (TldR (some (vk : Int)) w) := by
  go_enter Tryz.func67, Tryz.ntmps67
  go_wp2_with fail
  refine (HL.out _ (by repeat (first | with_reducible assumption | with_reducible exact Below.refl _ _ | with_reducible apply Below.drew | (with_reducible refine Below.alloc ?_ (by first | omega | (simp only [zA, zS, zD, zN]; omega) | (dsimp only; omega) | (simp only [zA, zS, zD, zN]; dsimp only; omega)) _) | (with_reducible refine Below.setCell ?_ (by first | omega | (simp only [zA, zS, zD, zN]; omega) | (dsimp only; omega) | (simp only [zA, zS, zD, zN]; dsimp only; omega)) _) | (with_reducible apply below_drewN)))).mono ?_
  rintro e W1 ⟨⟨lv, rfl, hlv⟩, hb⟩
  have x0 : Blk W1 w.heap.size #[.int .i64 4, .int .i64 n, .slice ad sn scap] 27 := ((Blk.new w #[.int .i64 4, .int .i64 n, .slice ad sn scap] 27).alloc _).ext hb
  have x1 : Blk W1 (w.heap.size + 1) #[.bool vl, .int .i64 vn, .slice vad vk vcap] 45 := (show Blk _ _ _ _ by simpa using Blk.new (w.alloc (.cells #[.int .i64 4, .int .i64 n, .slice ad sn scap] 27)) #[.bool vl, .int .i64 vn, .slice vad vk vcap] 45).ext hb
  have hB1 : Below w.heap.size w W1 := Below.trans (by repeat (first | with_reducible assumption | with_reducible exact Below.refl _ _ | with_reducible apply Below.drew | (with_reducible refine Below.alloc ?_ (by first | omega | (simp only [zA, zS, zD, zN]; omega) | (dsimp only; omega) | (simp only [zA, zS, zD, zN]; dsimp only; omega)) _) | (with_reducible refine Below.setCell ?_ (by first | omega | (simp only [zA, zS, zD, zN]; omega) | (dsimp only; omega) | (simp only [zA, zS, zD, zN]; dsimp only; omega)) _) | (with_reducible apply below_drewN))) (hb.mono (by first | omega | (simp only [zA, zS, zD, zN]; omega) | (dsimp only; omega) | (simp only [zA, zS, zD, zN]; dsimp only; omega)))
  clear hb
  have f0 := x0.cell 0
  have f1 := x0.cell 1
  have f2 := x0.cell 2
  simp only [List.getElem?_toArray, List.getElem?_cons_succ, List.getElem?_cons_zero] at f0 f1 f2
  have g0 := x1.cell 0
  have g1 := x1.cell 1
  have g2 := x1.cell 2
  simp only [List.getElem?_toArray, List.getElem?_cons_succ, List.getElem?_cons_zero] at g0 g1 g2
  go_wp2_with fail
  go_ret2
  exact ⟨rfl, hB1⟩
set_option maxHeartbeats 2000000 in
theorem rtold_sum (HL : Hid (LvR w (.agg #[.bool vl, .int .i64 vn, .slice vad vk vcap]) L)) (hLI : ∀ x ∈ L, In64 x) :
    Calls Tryz.prog 67 #[.agg #[.int .i64 2, .int .i64 n, .slice ad sn scap], .agg #[.bool vl, .int .i64 vn, .slice vad vk vcap]] w (TldR (some (sumW 0 L)) w) := by
  go_enter Tryz.func67, Tryz.ntmps67
  go_wp2_with fail
  refine (HL.out _ (by repeat (first | with_reducible assumption | with_reducible exact Below.refl _ _ | with_reducible apply Below.drew | (with_reducible refine Below.alloc ?_ (by first | omega | (simp only [zA, zS, zD, zN]; omega) | (dsimp only; omega) | (simp only [zA, zS, zD, zN]; dsimp only; omega)) _) | (with_reducible refine Below.setCell ?_ (by first | omega | (simp only [zA, zS, zD, zN]; omega) | (dsimp only; omega) | (simp only [zA, zS, zD, zN]; dsimp only; omega)) _) | (with_reducible apply below_drewN)))).mono ?_
  rintro e W1 ⟨⟨lv, rfl, hlv⟩, hb⟩
  have x0 : Blk W1 w.heap.size #[.int .i64 2, .int .i64 n, .slice ad sn scap] 27 := ((Blk.new w #[.int .i64 2, .int .i64 n, .slice ad sn scap] 27).alloc _).ext hb
  have x1 : Blk W1 (w.heap.size + 1) #[.bool vl, .int .i64 vn, .slice vad vk vcap] 45 := (show Blk _ _ _ _ by simpa using Blk.new (w.alloc (.cells #[.int .i64 2, .int .i64 n, .slice ad sn scap] 27)) #[.bool vl, .int .i64 vn, .slice vad vk vcap] 45).ext hb
  have hB1 : Below w.heap.size w W1 := Below.trans (by repeat (first | with_reducible assumption | with_reducible exact Below.refl _ _ | with_reducible apply Below.drew | (with_reducible refine Below.alloc ?_ (by first | omega | (simp only [zA, zS, zD, zN]; omega) | (dsimp only; omega) | (simp only [zA, zS, zD, zN]; dsimp only; omega)) _) | (with_reducible refine Below.setCell ?_ (by first | omega | (simp only [zA, zS, zD, zN]; omega) | (dsimp only; omega) | (simp only [zA, zS, zD, zN]; dsimp only; omega)) _) | (with_reducible apply below_drewN))) (hb.mono (by first | omega | (simp only [zA, zS, zD, zN]; omega) | (dsimp only; omega) | (simp only [zA, zS, zD, zN]; dsimp only; omega)))
  clear hb
  have f0 := x0.cell 0
  have f1 := x0.cell 1
  have f2 := x0.cell 2
  simp only [List.getElem?_toArray, List.getElem?_cons_succ, List.getElem?_cons_zero] at f0 f1 f2
  have g0 := x1.cell 0
  have g1 := x1.cell 1
  have g2 := x1.cell 2
  simp only [List.getElem?_toArray, List.getElem?_cons_succ, List.getElem?_cons_zero] at g0 g1 g2
  obtain ⟨lad, lcap, rfl, hl1, hl2, hl3, hlc⟩ := hlv.at.form
  have HLC := Lib.hid hlc
  have HST := Lib.hid hl3
  have hLL : L.length ≤ 9223372036854775807 := by unfold maxLen at hl2; omega
  clear hlv hlc hl3 hl1 hl2
  go_wp2_with fail
  go_loopw [7, 8, 9] (fun a b i wr => ∃ j : Nat, j ≤ L.length ∧ a = .int .i64 (sumW 0 (L.take j)) ∧ b = .int .i64 (topW (0, false) (L.take j)).1 ∧ i = .int .i64 j ∧ W1 = wr) (fun _ _ i _ => L.length - (intOf i).toNat)
  case atStart => exact ⟨0, by omega, rfl, rfl, rfl, rfl⟩
  case round =>
    obtain ⟨j, hj, rfl, rfl, rfl, rfl⟩ := hrel
    have hsb := sumW_bd (L.take j) 0 ⟨by omega, by omega⟩
    have htb := topW_bd (L.take j) (fun x hx => hLI x (List.mem_of_mem_take hx)) (0, false) ⟨by simp, by simp⟩
    by_cases hlt : j < L.length
    · have p0 : (0 : Int) ≤ (j : Int) := by omega
      have p1 : (j : Int) < (L.length : Int) := by omega
      obtain ⟨lb, loff, rfl, hlb, hcc⟩ := HLC.out (by omega)
      have cj := hcc j hlt
      have H1 : Hid (sumW 0 (L.take (j + 1)) = wrap64 (sumW 0 (L.take j) + L.getD j 0)) := sumW_step L j hlt
      have H2 : Hid ((topW (0, false) (L.take (j + 1))).1 = if j = 0 ∨ (topW (0, false) (L.take j)).1 < L.getD j 0 then L.getD j 0 else (topW (0, false) (L.take j)).1) := topW_step L j hlt
      clear hcc
      generalize sumW 0 (L.take j) = sm at *
      generalize (topW (0, false) (L.take j)).1 = tp at *
      generalize L.getD j 0 = x at *
      by_cases hj0 : j = 0
      · have q0 : ((j : Int) == 0) = true := by simp; omega
        have HX1 : Hid (sumW 0 (L.take (j + 1)) = wrap64 (sm + x)) := H1.out
        have HX2 : Hid ((topW (0, false) (L.take (j + 1))).1 = x) := by have := H2.out; rw [if_pos (.inl hj0)] at this; exact this
        clear H1 H2 hj0
        go_wp2_with fail
        exact ⟨⟨j + 1, by omega, by rw [HX1.out], by rw [HX2.out], by go_num, by trivial⟩, by simp [intOf]; omega⟩
      · have q0 : ((j : Int) == 0) = false := by simp; omega
        by_cases hx : tp < x
        · have q1 : decide (tp < x) = true := decide_eq_true hx
          have HX1 : Hid (sumW 0 (L.take (j + 1)) = wrap64 (sm + x)) := H1.out
          have HX2 : Hid ((topW (0, false) (L.take (j + 1))).1 = x) := by have := H2.out; rw [if_pos (.inr hx)] at this; exact this
          clear H1 H2 hj0
          go_wp2_with fail
          exact ⟨⟨j + 1, by omega, by rw [HX1.out], by rw [HX2.out], by go_num, by trivial⟩, by simp [intOf]; omega⟩
        · have q1 : decide (tp < x) = false := decide_eq_false hx
          have HX1 : Hid (sumW 0 (L.take (j + 1)) = wrap64 (sm + x)) := H1.out
          have HX2 : Hid ((topW (0, false) (L.take (j + 1))).1 = tp) := by have := H2.out; rw [if_neg (by omega)] at this; exact this
          clear H1 H2 hj0
          go_wp2_with fail
          exact ⟨⟨j + 1, by omega, by rw [HX1.out], by rw [HX2.out], by go_num, by trivial⟩, by simp [intOf]; omega⟩
    · have hj' : j = L.length := by omega
      have p1 : ¬ (j : Int) < (L.length : Int) := by omega
      have E : Hid (L.take j = L) := by show _ = _; rw [hj', List.take_length]
      clear hj'
      go_wp2_with fail
      go_ret2
      exact ⟨by rw [E.out]; rfl, hB1⟩
set_option maxHeartbeats 2000000 in
theorem rtold_top (HL : Hid (LvR w (.agg #[.bool vl, .int .i64 vn, .slice vad vk vcap]) L)) (hLI : ∀ x ∈ L, In64 x) :
    Calls Tryz.prog 67 #[.agg #[.int .i64 3, .int .i64 n, .slice ad sn scap], .agg #[.bool vl, .int .i64 vn, .slice vad vk vcap]] w (TldR (some (topW (0, false) L).1) w) := by
  go_enter Tryz.func67, Tryz.ntmps67
  go_wp2_with fail
  refine (HL.out _ (by repeat (first | with_reducible assumption | with_reducible exact Below.refl _ _ | with_reducible apply Below.drew | (with_reducible refine Below.alloc ?_ (by first | omega | (simp only [zA, zS, zD, zN]; omega) | (dsimp only; omega) | (simp only [zA, zS, zD, zN]; dsimp only; omega)) _) | (with_reducible refine Below.setCell ?_ (by first | omega | (simp only [zA, zS, zD, zN]; omega) | (dsimp only; omega) | (simp only [zA, zS, zD, zN]; dsimp only; omega)) _) | (with_reducible apply below_drewN)))).mono ?_
  rintro e W1 ⟨⟨lv, rfl, hlv⟩, hb⟩
  have x0 : Blk W1 w.heap.size #[.int .i64 3, .int .i64 n, .slice ad sn scap] 27 := ((Blk.new w #[.int .i64 3, .int .i64 n, .slice ad sn scap] 27).alloc _).ext hb
  have x1 : Blk W1 (w.heap.size + 1) #[.bool vl, .int .i64 vn, .slice vad vk vcap] 45 := (show Blk _ _ _ _ by simpa using Blk.new (w.alloc (.cells #[.int .i64 3, .int .i64 n, .slice ad sn scap] 27)) #[.bool vl, .int .i64 vn, .slice vad vk vcap] 45).ext hb
  have hB1 : Below w.heap.size w W1 := Below.trans (by repeat (first | with_reducible assumption | with_reducible exact Below.refl _ _ | with_reducible apply Below.drew | (with_reducible refine Below.alloc ?_ (by first | omega | (simp only [zA, zS, zD, zN]; omega) | (dsimp only; omega) | (simp only [zA, zS, zD, zN]; dsimp only; omega)) _) | (with_reducible refine Below.setCell ?_ (by first | omega | (simp only [zA, zS, zD, zN]; omega) | (dsimp only; omega) | (simp only [zA, zS, zD, zN]; dsimp only; omega)) _) | (with_reducible apply below_drewN))) (hb.mono (by first | omega | (simp only [zA, zS, zD, zN]; omega) | (dsimp only; omega) | (simp only [zA, zS, zD, zN]; dsimp only; omega)))
  clear hb
  have f0 := x0.cell 0
  have f1 := x0.cell 1
  have f2 := x0.cell 2
  simp only [List.getElem?_toArray, List.getElem?_cons_succ, List.getElem?_cons_zero] at f0 f1 f2
  have g0 := x1.cell 0
  have g1 := x1.cell 1
  have g2 := x1.cell 2
  simp only [List.getElem?_toArray, List.getElem?_cons_succ, List.getElem?_cons_zero] at g0 g1 g2
  obtain ⟨lad, lcap, rfl, hl1, hl2, hl3, hlc⟩ := hlv.at.form
  have HLC := Lib.hid hlc
  have HST := Lib.hid hl3
  have hLL : L.length ≤ 9223372036854775807 := by unfold maxLen at hl2; omega
  clear hlv hlc hl3 hl1 hl2
  go_wp2_with fail
  go_loopw [7, 8, 9] (fun a b i wr => ∃ j : Nat, j ≤ L.length ∧ a = .int .i64 (sumW 0 (L.take j)) ∧ b = .int .i64 (topW (0, false) (L.take j)).1 ∧ i = .int .i64 j ∧ W1 = wr) (fun _ _ i _ => L.length - (intOf i).toNat)
  case atStart => exact ⟨0, by omega, rfl, rfl, rfl, rfl⟩
  case round =>
    obtain ⟨j, hj, rfl, rfl, rfl, rfl⟩ := hrel
    have hsb := sumW_bd (L.take j) 0 ⟨by omega, by omega⟩
    have htb := topW_bd (L.take j) (fun x hx => hLI x (List.mem_of_mem_take hx)) (0, false) ⟨by simp, by simp⟩
    by_cases hlt : j < L.length
    · have p0 : (0 : Int) ≤ (j : Int) := by omega
      have p1 : (j : Int) < (L.length : Int) := by omega
      obtain ⟨lb, loff, rfl, hlb, hcc⟩ := HLC.out (by omega)
      have cj := hcc j hlt
      have H1 : Hid (sumW 0 (L.take (j + 1)) = wrap64 (sumW 0 (L.take j) + L.getD j 0)) := sumW_step L j hlt
      have H2 : Hid ((topW (0, false) (L.take (j + 1))).1 = if j = 0 ∨ (topW (0, false) (L.take j)).1 < L.getD j 0 then L.getD j 0 else (topW (0, false) (L.take j)).1) := topW_step L j hlt
      clear hcc
      generalize sumW 0 (L.take j) = sm at *
      generalize (topW (0, false) (L.take j)).1 = tp at *
      generalize L.getD j 0 = x at *
      by_cases hj0 : j = 0
      · have q0 : ((j : Int) == 0) = true := by simp; omega
        have HX1 : Hid (sumW 0 (L.take (j + 1)) = wrap64 (sm + x)) := H1.out
        have HX2 : Hid ((topW (0, false) (L.take (j + 1))).1 = x) := by have := H2.out; rw [if_pos (.inl hj0)] at this; exact this
        clear H1 H2 hj0
        go_wp2_with fail
        exact ⟨⟨j + 1, by omega, by rw [HX1.out], by rw [HX2.out], by go_num, by trivial⟩, by simp [intOf]; omega⟩
      · have q0 : ((j : Int) == 0) = false := by simp; omega
        by_cases hx : tp < x
        · have q1 : decide (tp < x) = true := decide_eq_true hx
          have HX1 : Hid (sumW 0 (L.take (j + 1)) = wrap64 (sm + x)) := H1.out
          have HX2 : Hid ((topW (0, false) (L.take (j + 1))).1 = x) := by have := H2.out; rw [if_pos (.inr hx)] at this; exact this
          clear H1 H2 hj0
          go_wp2_with fail
          exact ⟨⟨j + 1, by omega, by rw [HX1.out], by rw [HX2.out], by go_num, by trivial⟩, by simp [intOf]; omega⟩
        · have q1 : decide (tp < x) = false := decide_eq_false hx
          have HX1 : Hid (sumW 0 (L.take (j + 1)) = wrap64 (sm + x)) := H1.out
          have HX2 : Hid ((topW (0, false) (L.take (j + 1))).1 = tp) := by have := H2.out; rw [if_neg (by omega)] at this; exact this
          clear H1 H2 hj0
          go_wp2_with fail
          exact ⟨⟨j + 1, by omega, by rw [HX1.out], by rw [HX2.out], by go_num, by trivial⟩, by simp [intOf]; omega⟩
    · have hj' : j = L.length := by omega
      have p1 : ¬ (j : Int) < (L.length : Int) := by omega
      have E : Hid (L.take j = L) := by show _ = _; rw [hj', List.take_length]
      clear hj'
      go_wp2_with fail
      go_ret2
      exact ⟨by rw [E.out]; rfl, hB1⟩
/-- What a kind tells of what its subs tell, as the document has it. -/
theorem toldK_none (k : Int) (r1 : Option Int) : toldK k none r1 = none := rfl
set_option maxHeartbeats 2000000 in
theorem rtold_nine (HL : Hid (LvR w (.agg #[.bool vl, .int .i64 vn, .slice vad vk vcap]) L)) (H0 : Hid (SubR w 0 ad (.agg #[.bool vl, .int .i64 vn, .slice vad vk vcap]) r0)) (hsn : 0 < sn) :
    Calls Tryz.prog 67 #[.agg #[.int .i64 9, .int .i64 n, .slice ad sn scap], .agg #[.bool vl, .int .i64 vn, .slice vad vk vcap]] w (TldR (toldK 9 r0 r1) w) := by
  obtain ⟨bl, off, k0, n0, t0, ad0, cap0, rfl, hbl, c00, c01, c02, hc0⟩ := H0.out
  have hc0 := Lib.hid hc0
  simp only [Nat.zero_mul, Nat.add_zero] at c00 c01 c02
  have p0 : (0 : Int) < (sn : Int) := by omega
  have q0 : 0 < sn := by omega
  go_enter Tryz.func67, Tryz.ntmps67
  go_wp2_with fail
  refine (HL.out _ (by repeat (first | with_reducible assumption | with_reducible exact Below.refl _ _ | with_reducible apply Below.drew | (with_reducible refine Below.alloc ?_ (by first | omega | (simp only [zA, zS, zD, zN]; omega) | (dsimp only; omega) | (simp only [zA, zS, zD, zN]; dsimp only; omega)) _) | (with_reducible refine Below.setCell ?_ (by first | omega | (simp only [zA, zS, zD, zN]; omega) | (dsimp only; omega) | (simp only [zA, zS, zD, zN]; dsimp only; omega)) _) | (with_reducible apply below_drewN)))).mono ?_
  rintro e W1 ⟨⟨lv, rfl, hlv⟩, hb⟩
  have x0 : Blk W1 w.heap.size #[.int .i64 9, .int .i64 n, .slice (some ⟨bl, off, none⟩) sn scap] 27 := ((Blk.new w #[.int .i64 9, .int .i64 n, .slice (some ⟨bl, off, none⟩) sn scap] 27).alloc _).ext hb
  have x1 : Blk W1 (w.heap.size + 1) #[.bool vl, .int .i64 vn, .slice vad vk vcap] 45 := (show Blk _ _ _ _ by simpa using Blk.new (w.alloc (.cells #[.int .i64 9, .int .i64 n, .slice (some ⟨bl, off, none⟩) sn scap] 27)) #[.bool vl, .int .i64 vn, .slice vad vk vcap] 45).ext hb
  have hB1 : Below w.heap.size w W1 := Below.trans (by repeat (first | with_reducible assumption | with_reducible exact Below.refl _ _ | with_reducible apply Below.drew | (with_reducible refine Below.alloc ?_ (by first | omega | (simp only [zA, zS, zD, zN]; omega) | (dsimp only; omega) | (simp only [zA, zS, zD, zN]; dsimp only; omega)) _) | (with_reducible refine Below.setCell ?_ (by first | omega | (simp only [zA, zS, zD, zN]; omega) | (dsimp only; omega) | (simp only [zA, zS, zD, zN]; dsimp only; omega)) _) | (with_reducible apply below_drewN))) (hb.mono (by first | omega | (simp only [zA, zS, zD, zN]; omega) | (dsimp only; omega) | (simp only [zA, zS, zD, zN]; dsimp only; omega)))
  clear hb
  have f0 := x0.cell 0
  have f1 := x0.cell 1
  have f2 := x0.cell 2
  simp only [List.getElem?_toArray, List.getElem?_cons_succ, List.getElem?_cons_zero] at f0 f1 f2
  have g0 := x1.cell 0
  have g1 := x1.cell 1
  have g2 := x1.cell 2
  simp only [List.getElem?_toArray, List.getElem?_cons_succ, List.getElem?_cons_zero] at g0 g1 g2
  have d0 := (hB1.cell (p := ⟨bl, _, none⟩) hbl).trans c00
  have d1 := (hB1.cell (p := ⟨bl, _, none⟩) hbl).trans c01
  have d2 := (hB1.cell (p := ⟨bl, _, none⟩) hbl).trans c02
  go_wp2_with fail
  refine region_mov (S := fun w' => w'.cell? ⟨w.heap.size, 0, none⟩ = some (.int .i64 9) ∧ w'.cell? ⟨w.heap.size, 1, none⟩ = some (.int .i64 n) ∧ w'.cell? ⟨w.heap.size, 2, none⟩ = some (.slice (some ⟨bl, off, none⟩) sn scap) ∧ w'.cell? ⟨w.heap.size + 1, 0, none⟩ = some (.bool vl) ∧ w'.cell? ⟨w.heap.size + 1, 1, none⟩ = some (.int .i64 vn) ∧ w'.cell? ⟨w.heap.size + 1, 2, none⟩ = some (.slice vad vk vcap) ∧ w'.cell? ⟨bl, off, none⟩ = some (.int .i64 k0) ∧ w'.cell? ⟨bl, off + 1, none⟩ = some (.int .i64 n0) ∧ w'.cell? ⟨bl, off + 2, none⟩ = some (.slice ad0 t0 cap0)) (n := 10) (ms := [(true, 0), (true, 1), (true, 2), (true, 3), (true, 4), (false, 5), (true, 6), (true, 7), (true, 8), (false, 9), (false, 10)]) (hm := by kernel_rfl) (hB := by kernel_rfl) (hQ := fun c a d v w h => by cases d <;> exact h) ?_
  have HS0 : Hid ((fun w' => w'.cell? ⟨w.heap.size, 0, none⟩ = some (.int .i64 9) ∧ w'.cell? ⟨w.heap.size, 1, none⟩ = some (.int .i64 n) ∧ w'.cell? ⟨w.heap.size, 2, none⟩ = some (.slice (some ⟨bl, off, none⟩) sn scap) ∧ w'.cell? ⟨w.heap.size + 1, 0, none⟩ = some (.bool vl) ∧ w'.cell? ⟨w.heap.size + 1, 1, none⟩ = some (.int .i64 vn) ∧ w'.cell? ⟨w.heap.size + 1, 2, none⟩ = some (.slice vad vk vcap) ∧ w'.cell? ⟨bl, off, none⟩ = some (.int .i64 k0) ∧ w'.cell? ⟨bl, off + 1, none⟩ = some (.int .i64 n0) ∧ w'.cell? ⟨bl, off + 2, none⟩ = some (.slice ad0 t0 cap0)) W1.drew) := ⟨f0, f1, f2, g0, g1, g2, d0, d1, d2⟩
  iterate 5
    rw [mov_take]
    simp only [List.getElem?_toArray, List.getElem?_cons_succ, List.getElem?_cons_zero]
    refine ⟨?_, .inl ⟨by rfl, ?_⟩, HS0.out, ?_⟩
    rotate_left
    · rintro w' ⟨s0, s1, s2, s3, s4, s5, s6, s7, s8⟩
      go_simp
      rfl
    simp only [Act.put, List.setIfInBounds_toArray, List.set_cons_zero, List.set_cons_succ]
  have hBd : Below w.heap.size w W1.drew := hB1.drew
  have z0 : Blk W1.drew w.heap.size #[.int .i64 9, .int .i64 n, .slice (some ⟨bl, off, none⟩) sn scap] 27 := x0
  have z1 : Blk W1.drew (w.heap.size + 1) #[.bool vl, .int .i64 vn, .slice vad vk vcap] 45 := x1
  clear HS0 hB1 x0 x1 f0 f1 f2 g0 g1 g2 d0 d1 d2
  generalize W1.drew = WD at *
  have HS : Hid (∀ W', Below WD.heap.size WD W' → (fun w' => w'.cell? ⟨w.heap.size, 0, none⟩ = some (.int .i64 9) ∧ w'.cell? ⟨w.heap.size, 1, none⟩ = some (.int .i64 n) ∧ w'.cell? ⟨w.heap.size, 2, none⟩ = some (.slice (some ⟨bl, off, none⟩) sn scap) ∧ w'.cell? ⟨w.heap.size + 1, 0, none⟩ = some (.bool vl) ∧ w'.cell? ⟨w.heap.size + 1, 1, none⟩ = some (.int .i64 vn) ∧ w'.cell? ⟨w.heap.size + 1, 2, none⟩ = some (.slice vad vk vcap) ∧ w'.cell? ⟨bl, off, none⟩ = some (.int .i64 k0) ∧ w'.cell? ⟨bl, off + 1, none⟩ = some (.int .i64 n0) ∧ w'.cell? ⟨bl, off + 2, none⟩ = some (.slice ad0 t0 cap0)) W') := fun W' h => by
    have zz := hBd.size
    exact ⟨(z0.ext h).cell 0, (z0.ext h).cell 1, (z0.ext h).cell 2, (z1.ext h).cell 0, (z1.ext h).cell 1, (z1.ext h).cell 2, ((hBd.trans (h.mono hBd.size)).cell (p := ⟨bl, _, none⟩) hbl).trans c00, ((hBd.trans (h.mono hBd.size)).cell (p := ⟨bl, _, none⟩) hbl).trans c01, ((hBd.trans (h.mono hBd.size)).cell (p := ⟨bl, _, none⟩) hbl).trans c02⟩
  rw [mov_step]
  simp only [List.getElem?_toArray, List.getElem?_cons_succ, List.getElem?_cons_zero]
  go_wp2_with fail
  refine (hc0.out WD hBd).mono ?_
  rintro e W2 ⟨rfl, hb⟩
  have hS2 := HS.out W2 hb
  have HS2 := Lib.hid hS2
  clear hS2
  go_wp2_with fail
  refine And.intro (fun _ => HS2.out) ?_
  iterate 3
    rw [mov_take]
    simp only [List.getElem?_toArray, List.getElem?_cons_succ, List.getElem?_cons_zero]
    refine ⟨?_, .inl ⟨by rfl, ?_⟩, HS2.out, ?_⟩
    rotate_left
    · rintro w' _
      go_simp
      rfl
    simp only [Act.put, List.setIfInBounds_toArray, List.set_cons_zero, List.set_cons_succ]
  rw [mov_step]
  simp only [List.getElem?_toArray, List.getElem?_cons_succ, List.getElem?_cons_zero]
  go_wp2_with fail
  refine And.intro (fun _ => HS2.out) ?_
  rw [mov_step]
  simp only [List.getElem?_toArray, List.getElem?_cons_succ, List.getElem?_cons_zero]
  go_wp2_with fail
  refine And.intro (fun h => absurd h (by omega)) ?_
  rw [wpMov]
  have x0 := z0.ext hb
  have x1 := z1.ext hb
  have hB2 : Below w.heap.size w W2 := hBd.trans (hb.mono hBd.size)
  clear HS HS2 hBd z0 z1 hb
  have f0 := x0.cell 0
  have f1 := x0.cell 1
  have f2 := x0.cell 2
  simp only [List.getElem?_toArray, List.getElem?_cons_succ, List.getElem?_cons_zero] at f0 f1 f2
  have g0 := x1.cell 0
  have g1 := x1.cell 1
  have g2 := x1.cell 2
  simp only [List.getElem?_toArray, List.getElem?_cons_succ, List.getElem?_cons_zero] at g0 g1 g2
  cases r0 with
  | none =>
    dsimp only [Option.getD_none, Option.isSome_none]
    go_wp2_with (go_at_call 84; refine (rone_any _ _).mono ?_; rintro e w' ⟨rfl, rfl⟩)
    go_ret2
    exact ⟨rfl, hB2⟩
  | some a =>
    dsimp only [Option.getD_some, Option.isSome_some]
    go_wp2_with (go_at_call 84; refine (rone_any _ _).mono ?_; rintro e w' ⟨rfl, rfl⟩)
    go_ret2
    exact ⟨rfl, hB2⟩
set_option maxHeartbeats 2000000 in
theorem rtold_add (HL : Hid (LvR w (.agg #[.bool vl, .int .i64 vn, .slice vad vk vcap]) L)) (H0 : Hid (SubR w 0 ad (.agg #[.bool vl, .int .i64 vn, .slice vad vk vcap]) r0)) (H1 : Hid (SubR w 1 ad (.agg #[.bool vl, .int .i64 vn, .slice vad vk vcap]) r1)) (hsn : 1 < sn) :
    Calls Tryz.prog 67 #[.agg #[.int .i64 5, .int .i64 n, .slice ad sn scap], .agg #[.bool vl, .int .i64 vn, .slice vad vk vcap]] w (TldR (toldK 5 r0 r1) w) := by
  obtain ⟨bl, off, k0, n0, t0, ad0, cap0, rfl, hbl, c00, c01, c02, hc0⟩ := H0.out
  have hc0 := Lib.hid hc0
  simp only [Nat.zero_mul, Nat.add_zero] at c00 c01 c02
  obtain ⟨bl1, off1, k1, n1, t1, ad1, cap1, e1, hbl1, c10, c11, c12, hc1⟩ := H1.out
  simp only [Option.some.injEq, Addr.mk.injEq, and_true] at e1
  obtain ⟨rfl, rfl⟩ := e1
  have hc1 := Lib.hid hc1
  simp only [Nat.one_mul] at c10 c11 c12
  have p0 : (0 : Int) < (sn : Int) := by omega
  have q0 : 0 < sn := by omega
  have p1 : (1 : Int) < (sn : Int) := by omega
  have q1 : 1 < sn := by omega
  go_enter Tryz.func67, Tryz.ntmps67
  go_wp2_with fail
  refine (HL.out _ (by repeat (first | with_reducible assumption | with_reducible exact Below.refl _ _ | with_reducible apply Below.drew | (with_reducible refine Below.alloc ?_ (by first | omega | (simp only [zA, zS, zD, zN]; omega) | (dsimp only; omega) | (simp only [zA, zS, zD, zN]; dsimp only; omega)) _) | (with_reducible refine Below.setCell ?_ (by first | omega | (simp only [zA, zS, zD, zN]; omega) | (dsimp only; omega) | (simp only [zA, zS, zD, zN]; dsimp only; omega)) _) | (with_reducible apply below_drewN)))).mono ?_
  rintro e W1 ⟨⟨lv, rfl, hlv⟩, hb⟩
  have x0 : Blk W1 w.heap.size #[.int .i64 5, .int .i64 n, .slice (some ⟨bl, off, none⟩) sn scap] 27 := ((Blk.new w #[.int .i64 5, .int .i64 n, .slice (some ⟨bl, off, none⟩) sn scap] 27).alloc _).ext hb
  have x1 : Blk W1 (w.heap.size + 1) #[.bool vl, .int .i64 vn, .slice vad vk vcap] 45 := (show Blk _ _ _ _ by simpa using Blk.new (w.alloc (.cells #[.int .i64 5, .int .i64 n, .slice (some ⟨bl, off, none⟩) sn scap] 27)) #[.bool vl, .int .i64 vn, .slice vad vk vcap] 45).ext hb
  have hB1 : Below w.heap.size w W1 := Below.trans (by repeat (first | with_reducible assumption | with_reducible exact Below.refl _ _ | with_reducible apply Below.drew | (with_reducible refine Below.alloc ?_ (by first | omega | (simp only [zA, zS, zD, zN]; omega) | (dsimp only; omega) | (simp only [zA, zS, zD, zN]; dsimp only; omega)) _) | (with_reducible refine Below.setCell ?_ (by first | omega | (simp only [zA, zS, zD, zN]; omega) | (dsimp only; omega) | (simp only [zA, zS, zD, zN]; dsimp only; omega)) _) | (with_reducible apply below_drewN))) (hb.mono (by first | omega | (simp only [zA, zS, zD, zN]; omega) | (dsimp only; omega) | (simp only [zA, zS, zD, zN]; dsimp only; omega)))
  clear hb
  have f0 := x0.cell 0
  have f1 := x0.cell 1
  have f2 := x0.cell 2
  simp only [List.getElem?_toArray, List.getElem?_cons_succ, List.getElem?_cons_zero] at f0 f1 f2
  have g0 := x1.cell 0
  have g1 := x1.cell 1
  have g2 := x1.cell 2
  simp only [List.getElem?_toArray, List.getElem?_cons_succ, List.getElem?_cons_zero] at g0 g1 g2
  have d0 := (hB1.cell (p := ⟨bl, _, none⟩) hbl).trans c00
  have d1 := (hB1.cell (p := ⟨bl, _, none⟩) hbl).trans c01
  have d2 := (hB1.cell (p := ⟨bl, _, none⟩) hbl).trans c02
  go_wp2_with fail
  refine region_mov (S := fun w' => w'.cell? ⟨w.heap.size, 0, none⟩ = some (.int .i64 5) ∧ w'.cell? ⟨w.heap.size, 1, none⟩ = some (.int .i64 n) ∧ w'.cell? ⟨w.heap.size, 2, none⟩ = some (.slice (some ⟨bl, off, none⟩) sn scap) ∧ w'.cell? ⟨w.heap.size + 1, 0, none⟩ = some (.bool vl) ∧ w'.cell? ⟨w.heap.size + 1, 1, none⟩ = some (.int .i64 vn) ∧ w'.cell? ⟨w.heap.size + 1, 2, none⟩ = some (.slice vad vk vcap) ∧ w'.cell? ⟨bl, off, none⟩ = some (.int .i64 k0) ∧ w'.cell? ⟨bl, off + 1, none⟩ = some (.int .i64 n0) ∧ w'.cell? ⟨bl, off + 2, none⟩ = some (.slice ad0 t0 cap0)) (n := 10) (ms := [(true, 0), (true, 1), (true, 2), (true, 3), (true, 4), (false, 5), (true, 6), (true, 7), (true, 8), (false, 9), (false, 10)]) (hm := by kernel_rfl) (hB := by kernel_rfl) (hQ := fun c a d v w h => by cases d <;> exact h) ?_
  have HS0 : Hid ((fun w' => w'.cell? ⟨w.heap.size, 0, none⟩ = some (.int .i64 5) ∧ w'.cell? ⟨w.heap.size, 1, none⟩ = some (.int .i64 n) ∧ w'.cell? ⟨w.heap.size, 2, none⟩ = some (.slice (some ⟨bl, off, none⟩) sn scap) ∧ w'.cell? ⟨w.heap.size + 1, 0, none⟩ = some (.bool vl) ∧ w'.cell? ⟨w.heap.size + 1, 1, none⟩ = some (.int .i64 vn) ∧ w'.cell? ⟨w.heap.size + 1, 2, none⟩ = some (.slice vad vk vcap) ∧ w'.cell? ⟨bl, off, none⟩ = some (.int .i64 k0) ∧ w'.cell? ⟨bl, off + 1, none⟩ = some (.int .i64 n0) ∧ w'.cell? ⟨bl, off + 2, none⟩ = some (.slice ad0 t0 cap0)) W1.drew) := ⟨f0, f1, f2, g0, g1, g2, d0, d1, d2⟩
  iterate 5
    rw [mov_take]
    simp only [List.getElem?_toArray, List.getElem?_cons_succ, List.getElem?_cons_zero]
    refine ⟨?_, .inl ⟨by rfl, ?_⟩, HS0.out, ?_⟩
    rotate_left
    · rintro w' ⟨s0, s1, s2, s3, s4, s5, s6, s7, s8⟩
      go_simp
      rfl
    simp only [Act.put, List.setIfInBounds_toArray, List.set_cons_zero, List.set_cons_succ]
  have hBd : Below w.heap.size w W1.drew := hB1.drew
  have z0 : Blk W1.drew w.heap.size #[.int .i64 5, .int .i64 n, .slice (some ⟨bl, off, none⟩) sn scap] 27 := x0
  have z1 : Blk W1.drew (w.heap.size + 1) #[.bool vl, .int .i64 vn, .slice vad vk vcap] 45 := x1
  clear HS0 hB1 x0 x1 f0 f1 f2 g0 g1 g2 d0 d1 d2
  generalize W1.drew = WD at *
  have HS : Hid (∀ W', Below WD.heap.size WD W' → (fun w' => w'.cell? ⟨w.heap.size, 0, none⟩ = some (.int .i64 5) ∧ w'.cell? ⟨w.heap.size, 1, none⟩ = some (.int .i64 n) ∧ w'.cell? ⟨w.heap.size, 2, none⟩ = some (.slice (some ⟨bl, off, none⟩) sn scap) ∧ w'.cell? ⟨w.heap.size + 1, 0, none⟩ = some (.bool vl) ∧ w'.cell? ⟨w.heap.size + 1, 1, none⟩ = some (.int .i64 vn) ∧ w'.cell? ⟨w.heap.size + 1, 2, none⟩ = some (.slice vad vk vcap) ∧ w'.cell? ⟨bl, off, none⟩ = some (.int .i64 k0) ∧ w'.cell? ⟨bl, off + 1, none⟩ = some (.int .i64 n0) ∧ w'.cell? ⟨bl, off + 2, none⟩ = some (.slice ad0 t0 cap0)) W') := fun W' h => by
    have zz := hBd.size
    exact ⟨(z0.ext h).cell 0, (z0.ext h).cell 1, (z0.ext h).cell 2, (z1.ext h).cell 0, (z1.ext h).cell 1, (z1.ext h).cell 2, ((hBd.trans (h.mono hBd.size)).cell (p := ⟨bl, _, none⟩) hbl).trans c00, ((hBd.trans (h.mono hBd.size)).cell (p := ⟨bl, _, none⟩) hbl).trans c01, ((hBd.trans (h.mono hBd.size)).cell (p := ⟨bl, _, none⟩) hbl).trans c02⟩
  rw [mov_step]
  simp only [List.getElem?_toArray, List.getElem?_cons_succ, List.getElem?_cons_zero]
  go_wp2_with fail
  refine (hc0.out WD hBd).mono ?_
  rintro e W2 ⟨rfl, hb⟩
  have hS2 := HS.out W2 hb
  have HS2 := Lib.hid hS2
  clear hS2
  go_wp2_with fail
  refine And.intro (fun _ => HS2.out) ?_
  iterate 3
    rw [mov_take]
    simp only [List.getElem?_toArray, List.getElem?_cons_succ, List.getElem?_cons_zero]
    refine ⟨?_, .inl ⟨by rfl, ?_⟩, HS2.out, ?_⟩
    rotate_left
    · rintro w' _
      go_simp
      rfl
    simp only [Act.put, List.setIfInBounds_toArray, List.set_cons_zero, List.set_cons_succ]
  rw [mov_step]
  simp only [List.getElem?_toArray, List.getElem?_cons_succ, List.getElem?_cons_zero]
  go_wp2_with fail
  refine And.intro (fun _ => HS2.out) ?_
  rw [mov_step]
  simp only [List.getElem?_toArray, List.getElem?_cons_succ, List.getElem?_cons_zero]
  go_wp2_with fail
  refine And.intro (fun h => absurd h (by omega)) ?_
  rw [wpMov]
  have x0 := z0.ext hb
  have x1 := z1.ext hb
  have hB2 : Below w.heap.size w W2 := hBd.trans (hb.mono hBd.size)
  clear HS HS2 hBd z0 z1 hb
  have f0 := x0.cell 0
  have f1 := x0.cell 1
  have f2 := x0.cell 2
  simp only [List.getElem?_toArray, List.getElem?_cons_succ, List.getElem?_cons_zero] at f0 f1 f2
  have g0 := x1.cell 0
  have g1 := x1.cell 1
  have g2 := x1.cell 2
  simp only [List.getElem?_toArray, List.getElem?_cons_succ, List.getElem?_cons_zero] at g0 g1 g2
  cases r0 with
  | none =>
    dsimp only [Option.getD_none, Option.isSome_none]
    go_wp2_with (go_at_call 84; refine (rone_any _ _).mono ?_; rintro e w' ⟨rfl, rfl⟩)
    go_ret2
    exact ⟨rfl, hB2⟩
  | some a =>
    dsimp only [Option.getD_some, Option.isSome_some]
    clear f0 f1 f2 g0 g1 g2
    have f0 := x0.cell 0
    have f1 := x0.cell 1
    have f2 := x0.cell 2
    simp only [List.getElem?_toArray, List.getElem?_cons_succ, List.getElem?_cons_zero] at f0 f1 f2
    have g0 := x1.cell 0
    have g1 := x1.cell 1
    have g2 := x1.cell 2
    simp only [List.getElem?_toArray, List.getElem?_cons_succ, List.getElem?_cons_zero] at g0 g1 g2
    have d0 := (hB2.cell (p := ⟨bl, _, none⟩) hbl).trans c10
    have d1 := (hB2.cell (p := ⟨bl, _, none⟩) hbl).trans c11
    have d2 := (hB2.cell (p := ⟨bl, _, none⟩) hbl).trans c12
    go_wp2_with fail
    refine region_mov (S := fun w' => w'.cell? ⟨w.heap.size, 0, none⟩ = some (.int .i64 5) ∧ w'.cell? ⟨w.heap.size, 1, none⟩ = some (.int .i64 n) ∧ w'.cell? ⟨w.heap.size, 2, none⟩ = some (.slice (some ⟨bl, off, none⟩) sn scap) ∧ w'.cell? ⟨w.heap.size + 1, 0, none⟩ = some (.bool vl) ∧ w'.cell? ⟨w.heap.size + 1, 1, none⟩ = some (.int .i64 vn) ∧ w'.cell? ⟨w.heap.size + 1, 2, none⟩ = some (.slice vad vk vcap) ∧ w'.cell? ⟨bl, off + 3, none⟩ = some (.int .i64 k1) ∧ w'.cell? ⟨bl, off + 3 + 1, none⟩ = some (.int .i64 n1) ∧ w'.cell? ⟨bl, off + 3 + 2, none⟩ = some (.slice ad1 t1 cap1)) (n := 10) (ms := [(true, 0), (true, 1), (true, 2), (true, 3), (true, 4), (false, 5), (true, 6), (true, 7), (true, 8), (false, 9), (false, 10)]) (hm := by kernel_rfl) (hB := by kernel_rfl) (hQ := fun c a d v w h => by cases d <;> exact h) ?_
    have HS0 : Hid ((fun w' => w'.cell? ⟨w.heap.size, 0, none⟩ = some (.int .i64 5) ∧ w'.cell? ⟨w.heap.size, 1, none⟩ = some (.int .i64 n) ∧ w'.cell? ⟨w.heap.size, 2, none⟩ = some (.slice (some ⟨bl, off, none⟩) sn scap) ∧ w'.cell? ⟨w.heap.size + 1, 0, none⟩ = some (.bool vl) ∧ w'.cell? ⟨w.heap.size + 1, 1, none⟩ = some (.int .i64 vn) ∧ w'.cell? ⟨w.heap.size + 1, 2, none⟩ = some (.slice vad vk vcap) ∧ w'.cell? ⟨bl, off + 3, none⟩ = some (.int .i64 k1) ∧ w'.cell? ⟨bl, off + 3 + 1, none⟩ = some (.int .i64 n1) ∧ w'.cell? ⟨bl, off + 3 + 2, none⟩ = some (.slice ad1 t1 cap1)) W2.drew) := ⟨f0, f1, f2, g0, g1, g2, d0, d1, d2⟩
    iterate 5
      rw [mov_take]
      simp only [List.getElem?_toArray, List.getElem?_cons_succ, List.getElem?_cons_zero]
      refine ⟨?_, .inl ⟨by rfl, ?_⟩, HS0.out, ?_⟩
      rotate_left
      · rintro w' ⟨s0, s1, s2, s3, s4, s5, s6, s7, s8⟩
        go_simp
        rfl
      simp only [Act.put, List.setIfInBounds_toArray, List.set_cons_zero, List.set_cons_succ]
    have hBd : Below w.heap.size w W2.drew := hB2.drew
    have z0 : Blk W2.drew w.heap.size #[.int .i64 5, .int .i64 n, .slice (some ⟨bl, off, none⟩) sn scap] 27 := x0
    have z1 : Blk W2.drew (w.heap.size + 1) #[.bool vl, .int .i64 vn, .slice vad vk vcap] 45 := x1
    clear HS0 hB2 x0 x1 f0 f1 f2 g0 g1 g2 d0 d1 d2
    generalize W2.drew = WD at *
    have HS : Hid (∀ W', Below WD.heap.size WD W' → (fun w' => w'.cell? ⟨w.heap.size, 0, none⟩ = some (.int .i64 5) ∧ w'.cell? ⟨w.heap.size, 1, none⟩ = some (.int .i64 n) ∧ w'.cell? ⟨w.heap.size, 2, none⟩ = some (.slice (some ⟨bl, off, none⟩) sn scap) ∧ w'.cell? ⟨w.heap.size + 1, 0, none⟩ = some (.bool vl) ∧ w'.cell? ⟨w.heap.size + 1, 1, none⟩ = some (.int .i64 vn) ∧ w'.cell? ⟨w.heap.size + 1, 2, none⟩ = some (.slice vad vk vcap) ∧ w'.cell? ⟨bl, off + 3, none⟩ = some (.int .i64 k1) ∧ w'.cell? ⟨bl, off + 3 + 1, none⟩ = some (.int .i64 n1) ∧ w'.cell? ⟨bl, off + 3 + 2, none⟩ = some (.slice ad1 t1 cap1)) W') := fun W' h => by
      have zz := hBd.size
      exact ⟨(z0.ext h).cell 0, (z0.ext h).cell 1, (z0.ext h).cell 2, (z1.ext h).cell 0, (z1.ext h).cell 1, (z1.ext h).cell 2, ((hBd.trans (h.mono hBd.size)).cell (p := ⟨bl, _, none⟩) hbl).trans c10, ((hBd.trans (h.mono hBd.size)).cell (p := ⟨bl, _, none⟩) hbl).trans c11, ((hBd.trans (h.mono hBd.size)).cell (p := ⟨bl, _, none⟩) hbl).trans c12⟩
    rw [mov_step]
    simp only [List.getElem?_toArray, List.getElem?_cons_succ, List.getElem?_cons_zero]
    go_wp2_with fail
    refine (hc1.out WD hBd).mono ?_
    rintro e W3 ⟨rfl, hb⟩
    have hS2 := HS.out W3 hb
    have HS2 := Lib.hid hS2
    clear hS2
    go_wp2_with fail
    refine And.intro (fun _ => HS2.out) ?_
    iterate 3
      rw [mov_take]
      simp only [List.getElem?_toArray, List.getElem?_cons_succ, List.getElem?_cons_zero]
      refine ⟨?_, .inl ⟨by rfl, ?_⟩, HS2.out, ?_⟩
      rotate_left
      · rintro w' _
        go_simp
        rfl
      simp only [Act.put, List.setIfInBounds_toArray, List.set_cons_zero, List.set_cons_succ]
    rw [mov_step]
    simp only [List.getElem?_toArray, List.getElem?_cons_succ, List.getElem?_cons_zero]
    go_wp2_with fail
    refine And.intro (fun _ => HS2.out) ?_
    rw [mov_step]
    simp only [List.getElem?_toArray, List.getElem?_cons_succ, List.getElem?_cons_zero]
    go_wp2_with fail
    refine And.intro (fun h => absurd h (by omega)) ?_
    rw [wpMov]
    have x0 := z0.ext hb
    have x1 := z1.ext hb
    have hB3 : Below w.heap.size w W3 := hBd.trans (hb.mono hBd.size)
    clear HS HS2 hBd z0 z1 hb
    have f0 := x0.cell 0
    have f1 := x0.cell 1
    have f2 := x0.cell 2
    simp only [List.getElem?_toArray, List.getElem?_cons_succ, List.getElem?_cons_zero] at f0 f1 f2
    have g0 := x1.cell 0
    have g1 := x1.cell 1
    have g2 := x1.cell 2
    simp only [List.getElem?_toArray, List.getElem?_cons_succ, List.getElem?_cons_zero] at g0 g1 g2
    cases r1 with
    | none =>
      dsimp only [Option.getD_none, Option.isSome_none]
      go_wp2_with fail
      go_ret2
      exact ⟨rfl, hB3⟩
    | some b =>
      dsimp only [Option.getD_some, Option.isSome_some]
      have HX : Hid (toldK 5 (some a) (some b) = some (wrap64 (a + b))) := by show _ = _; simp [toldK]
      go_wp2_with (go_at_call 84; refine (rone_any _ _).mono ?_; rintro e w' ⟨rfl, rfl⟩)
      go_ret2
      exact ⟨by rw [HX.out]; rfl, hB3⟩
set_option maxHeartbeats 2000000 in
theorem rtold_rem (HL : Hid (LvR w (.agg #[.bool vl, .int .i64 vn, .slice vad vk vcap]) L)) (H0 : Hid (SubR w 0 ad (.agg #[.bool vl, .int .i64 vn, .slice vad vk vcap]) r0)) (H1 : Hid (SubR w 1 ad (.agg #[.bool vl, .int .i64 vn, .slice vad vk vcap]) r1)) (hsn : 1 < sn) :
    Calls Tryz.prog 67 #[.agg #[.int .i64 6, .int .i64 n, .slice ad sn scap], .agg #[.bool vl, .int .i64 vn, .slice vad vk vcap]] w (TldR (toldK 6 r0 r1) w) := by
  obtain ⟨bl, off, k0, n0, t0, ad0, cap0, rfl, hbl, c00, c01, c02, hc0⟩ := H0.out
  have hc0 := Lib.hid hc0
  simp only [Nat.zero_mul, Nat.add_zero] at c00 c01 c02
  obtain ⟨bl1, off1, k1, n1, t1, ad1, cap1, e1, hbl1, c10, c11, c12, hc1⟩ := H1.out
  simp only [Option.some.injEq, Addr.mk.injEq, and_true] at e1
  obtain ⟨rfl, rfl⟩ := e1
  have hc1 := Lib.hid hc1
  simp only [Nat.one_mul] at c10 c11 c12
  have p0 : (0 : Int) < (sn : Int) := by omega
  have q0 : 0 < sn := by omega
  have p1 : (1 : Int) < (sn : Int) := by omega
  have q1 : 1 < sn := by omega
  go_enter Tryz.func67, Tryz.ntmps67
  go_wp2_with fail
  refine (HL.out _ (by repeat (first | with_reducible assumption | with_reducible exact Below.refl _ _ | with_reducible apply Below.drew | (with_reducible refine Below.alloc ?_ (by first | omega | (simp only [zA, zS, zD, zN]; omega) | (dsimp only; omega) | (simp only [zA, zS, zD, zN]; dsimp only; omega)) _) | (with_reducible refine Below.setCell ?_ (by first | omega | (simp only [zA, zS, zD, zN]; omega) | (dsimp only; omega) | (simp only [zA, zS, zD, zN]; dsimp only; omega)) _) | (with_reducible apply below_drewN)))).mono ?_
  rintro e W1 ⟨⟨lv, rfl, hlv⟩, hb⟩
  have x0 : Blk W1 w.heap.size #[.int .i64 6, .int .i64 n, .slice (some ⟨bl, off, none⟩) sn scap] 27 := ((Blk.new w #[.int .i64 6, .int .i64 n, .slice (some ⟨bl, off, none⟩) sn scap] 27).alloc _).ext hb
  have x1 : Blk W1 (w.heap.size + 1) #[.bool vl, .int .i64 vn, .slice vad vk vcap] 45 := (show Blk _ _ _ _ by simpa using Blk.new (w.alloc (.cells #[.int .i64 6, .int .i64 n, .slice (some ⟨bl, off, none⟩) sn scap] 27)) #[.bool vl, .int .i64 vn, .slice vad vk vcap] 45).ext hb
  have hB1 : Below w.heap.size w W1 := Below.trans (by repeat (first | with_reducible assumption | with_reducible exact Below.refl _ _ | with_reducible apply Below.drew | (with_reducible refine Below.alloc ?_ (by first | omega | (simp only [zA, zS, zD, zN]; omega) | (dsimp only; omega) | (simp only [zA, zS, zD, zN]; dsimp only; omega)) _) | (with_reducible refine Below.setCell ?_ (by first | omega | (simp only [zA, zS, zD, zN]; omega) | (dsimp only; omega) | (simp only [zA, zS, zD, zN]; dsimp only; omega)) _) | (with_reducible apply below_drewN))) (hb.mono (by first | omega | (simp only [zA, zS, zD, zN]; omega) | (dsimp only; omega) | (simp only [zA, zS, zD, zN]; dsimp only; omega)))
  clear hb
  have f0 := x0.cell 0
  have f1 := x0.cell 1
  have f2 := x0.cell 2
  simp only [List.getElem?_toArray, List.getElem?_cons_succ, List.getElem?_cons_zero] at f0 f1 f2
  have g0 := x1.cell 0
  have g1 := x1.cell 1
  have g2 := x1.cell 2
  simp only [List.getElem?_toArray, List.getElem?_cons_succ, List.getElem?_cons_zero] at g0 g1 g2
  have d0 := (hB1.cell (p := ⟨bl, _, none⟩) hbl).trans c00
  have d1 := (hB1.cell (p := ⟨bl, _, none⟩) hbl).trans c01
  have d2 := (hB1.cell (p := ⟨bl, _, none⟩) hbl).trans c02
  go_wp2_with fail
  refine region_mov (S := fun w' => w'.cell? ⟨w.heap.size, 0, none⟩ = some (.int .i64 6) ∧ w'.cell? ⟨w.heap.size, 1, none⟩ = some (.int .i64 n) ∧ w'.cell? ⟨w.heap.size, 2, none⟩ = some (.slice (some ⟨bl, off, none⟩) sn scap) ∧ w'.cell? ⟨w.heap.size + 1, 0, none⟩ = some (.bool vl) ∧ w'.cell? ⟨w.heap.size + 1, 1, none⟩ = some (.int .i64 vn) ∧ w'.cell? ⟨w.heap.size + 1, 2, none⟩ = some (.slice vad vk vcap) ∧ w'.cell? ⟨bl, off, none⟩ = some (.int .i64 k0) ∧ w'.cell? ⟨bl, off + 1, none⟩ = some (.int .i64 n0) ∧ w'.cell? ⟨bl, off + 2, none⟩ = some (.slice ad0 t0 cap0)) (n := 10) (ms := [(true, 0), (true, 1), (true, 2), (true, 3), (true, 4), (false, 5), (true, 6), (true, 7), (true, 8), (false, 9), (false, 10)]) (hm := by kernel_rfl) (hB := by kernel_rfl) (hQ := fun c a d v w h => by cases d <;> exact h) ?_
  have HS0 : Hid ((fun w' => w'.cell? ⟨w.heap.size, 0, none⟩ = some (.int .i64 6) ∧ w'.cell? ⟨w.heap.size, 1, none⟩ = some (.int .i64 n) ∧ w'.cell? ⟨w.heap.size, 2, none⟩ = some (.slice (some ⟨bl, off, none⟩) sn scap) ∧ w'.cell? ⟨w.heap.size + 1, 0, none⟩ = some (.bool vl) ∧ w'.cell? ⟨w.heap.size + 1, 1, none⟩ = some (.int .i64 vn) ∧ w'.cell? ⟨w.heap.size + 1, 2, none⟩ = some (.slice vad vk vcap) ∧ w'.cell? ⟨bl, off, none⟩ = some (.int .i64 k0) ∧ w'.cell? ⟨bl, off + 1, none⟩ = some (.int .i64 n0) ∧ w'.cell? ⟨bl, off + 2, none⟩ = some (.slice ad0 t0 cap0)) W1.drew) := ⟨f0, f1, f2, g0, g1, g2, d0, d1, d2⟩
  iterate 5
    rw [mov_take]
    simp only [List.getElem?_toArray, List.getElem?_cons_succ, List.getElem?_cons_zero]
    refine ⟨?_, .inl ⟨by rfl, ?_⟩, HS0.out, ?_⟩
    rotate_left
    · rintro w' ⟨s0, s1, s2, s3, s4, s5, s6, s7, s8⟩
      go_simp
      rfl
    simp only [Act.put, List.setIfInBounds_toArray, List.set_cons_zero, List.set_cons_succ]
  have hBd : Below w.heap.size w W1.drew := hB1.drew
  have z0 : Blk W1.drew w.heap.size #[.int .i64 6, .int .i64 n, .slice (some ⟨bl, off, none⟩) sn scap] 27 := x0
  have z1 : Blk W1.drew (w.heap.size + 1) #[.bool vl, .int .i64 vn, .slice vad vk vcap] 45 := x1
  clear HS0 hB1 x0 x1 f0 f1 f2 g0 g1 g2 d0 d1 d2
  generalize W1.drew = WD at *
  have HS : Hid (∀ W', Below WD.heap.size WD W' → (fun w' => w'.cell? ⟨w.heap.size, 0, none⟩ = some (.int .i64 6) ∧ w'.cell? ⟨w.heap.size, 1, none⟩ = some (.int .i64 n) ∧ w'.cell? ⟨w.heap.size, 2, none⟩ = some (.slice (some ⟨bl, off, none⟩) sn scap) ∧ w'.cell? ⟨w.heap.size + 1, 0, none⟩ = some (.bool vl) ∧ w'.cell? ⟨w.heap.size + 1, 1, none⟩ = some (.int .i64 vn) ∧ w'.cell? ⟨w.heap.size + 1, 2, none⟩ = some (.slice vad vk vcap) ∧ w'.cell? ⟨bl, off, none⟩ = some (.int .i64 k0) ∧ w'.cell? ⟨bl, off + 1, none⟩ = some (.int .i64 n0) ∧ w'.cell? ⟨bl, off + 2, none⟩ = some (.slice ad0 t0 cap0)) W') := fun W' h => by
    have zz := hBd.size
    exact ⟨(z0.ext h).cell 0, (z0.ext h).cell 1, (z0.ext h).cell 2, (z1.ext h).cell 0, (z1.ext h).cell 1, (z1.ext h).cell 2, ((hBd.trans (h.mono hBd.size)).cell (p := ⟨bl, _, none⟩) hbl).trans c00, ((hBd.trans (h.mono hBd.size)).cell (p := ⟨bl, _, none⟩) hbl).trans c01, ((hBd.trans (h.mono hBd.size)).cell (p := ⟨bl, _, none⟩) hbl).trans c02⟩
  rw [mov_step]
  simp only [List.getElem?_toArray, List.getElem?_cons_succ, List.getElem?_cons_zero]
  go_wp2_with fail
  refine (hc0.out WD hBd).mono ?_
  rintro e W2 ⟨rfl, hb⟩
  have hS2 := HS.out W2 hb
  have HS2 := Lib.hid hS2
  clear hS2
  go_wp2_with fail
  refine And.intro (fun _ => HS2.out) ?_
  iterate 3
    rw [mov_take]
    simp only [List.getElem?_toArray, List.getElem?_cons_succ, List.getElem?_cons_zero]
    refine ⟨?_, .inl ⟨by rfl, ?_⟩, HS2.out, ?_⟩
    rotate_left
    · rintro w' _
      go_simp
      rfl
    simp only [Act.put, List.setIfInBounds_toArray, List.set_cons_zero, List.set_cons_succ]
  rw [mov_step]
  simp only [List.getElem?_toArray, List.getElem?_cons_succ, List.getElem?_cons_zero]
  go_wp2_with fail
  refine And.intro (fun _ => HS2.out) ?_
  rw [mov_step]
  simp only [List.getElem?_toArray, List.getElem?_cons_succ, List.getElem?_cons_zero]
  go_wp2_with fail
  refine And.intro (fun h => absurd h (by omega)) ?_
  rw [wpMov]
  have x0 := z0.ext hb
  have x1 := z1.ext hb
  have hB2 : Below w.heap.size w W2 := hBd.trans (hb.mono hBd.size)
  clear HS HS2 hBd z0 z1 hb
  have f0 := x0.cell 0
  have f1 := x0.cell 1
  have f2 := x0.cell 2
  simp only [List.getElem?_toArray, List.getElem?_cons_succ, List.getElem?_cons_zero] at f0 f1 f2
  have g0 := x1.cell 0
  have g1 := x1.cell 1
  have g2 := x1.cell 2
  simp only [List.getElem?_toArray, List.getElem?_cons_succ, List.getElem?_cons_zero] at g0 g1 g2
  cases r0 with
  | none =>
    dsimp only [Option.getD_none, Option.isSome_none]
    go_wp2_with (go_at_call 84; refine (rone_any _ _).mono ?_; rintro e w' ⟨rfl, rfl⟩)
    go_ret2
    exact ⟨rfl, hB2⟩
  | some a =>
    dsimp only [Option.getD_some, Option.isSome_some]
    clear f0 f1 f2 g0 g1 g2
    have f0 := x0.cell 0
    have f1 := x0.cell 1
    have f2 := x0.cell 2
    simp only [List.getElem?_toArray, List.getElem?_cons_succ, List.getElem?_cons_zero] at f0 f1 f2
    have g0 := x1.cell 0
    have g1 := x1.cell 1
    have g2 := x1.cell 2
    simp only [List.getElem?_toArray, List.getElem?_cons_succ, List.getElem?_cons_zero] at g0 g1 g2
    have d0 := (hB2.cell (p := ⟨bl, _, none⟩) hbl).trans c10
    have d1 := (hB2.cell (p := ⟨bl, _, none⟩) hbl).trans c11
    have d2 := (hB2.cell (p := ⟨bl, _, none⟩) hbl).trans c12
    go_wp2_with fail
    refine region_mov (S := fun w' => w'.cell? ⟨w.heap.size, 0, none⟩ = some (.int .i64 6) ∧ w'.cell? ⟨w.heap.size, 1, none⟩ = some (.int .i64 n) ∧ w'.cell? ⟨w.heap.size, 2, none⟩ = some (.slice (some ⟨bl, off, none⟩) sn scap) ∧ w'.cell? ⟨w.heap.size + 1, 0, none⟩ = some (.bool vl) ∧ w'.cell? ⟨w.heap.size + 1, 1, none⟩ = some (.int .i64 vn) ∧ w'.cell? ⟨w.heap.size + 1, 2, none⟩ = some (.slice vad vk vcap) ∧ w'.cell? ⟨bl, off + 3, none⟩ = some (.int .i64 k1) ∧ w'.cell? ⟨bl, off + 3 + 1, none⟩ = some (.int .i64 n1) ∧ w'.cell? ⟨bl, off + 3 + 2, none⟩ = some (.slice ad1 t1 cap1)) (n := 10) (ms := [(true, 0), (true, 1), (true, 2), (true, 3), (true, 4), (false, 5), (true, 6), (true, 7), (true, 8), (false, 9), (false, 10)]) (hm := by kernel_rfl) (hB := by kernel_rfl) (hQ := fun c a d v w h => by cases d <;> exact h) ?_
    have HS0 : Hid ((fun w' => w'.cell? ⟨w.heap.size, 0, none⟩ = some (.int .i64 6) ∧ w'.cell? ⟨w.heap.size, 1, none⟩ = some (.int .i64 n) ∧ w'.cell? ⟨w.heap.size, 2, none⟩ = some (.slice (some ⟨bl, off, none⟩) sn scap) ∧ w'.cell? ⟨w.heap.size + 1, 0, none⟩ = some (.bool vl) ∧ w'.cell? ⟨w.heap.size + 1, 1, none⟩ = some (.int .i64 vn) ∧ w'.cell? ⟨w.heap.size + 1, 2, none⟩ = some (.slice vad vk vcap) ∧ w'.cell? ⟨bl, off + 3, none⟩ = some (.int .i64 k1) ∧ w'.cell? ⟨bl, off + 3 + 1, none⟩ = some (.int .i64 n1) ∧ w'.cell? ⟨bl, off + 3 + 2, none⟩ = some (.slice ad1 t1 cap1)) W2.drew) := ⟨f0, f1, f2, g0, g1, g2, d0, d1, d2⟩
    iterate 5
      rw [mov_take]
      simp only [List.getElem?_toArray, List.getElem?_cons_succ, List.getElem?_cons_zero]
      refine ⟨?_, .inl ⟨by rfl, ?_⟩, HS0.out, ?_⟩
      rotate_left
      · rintro w' ⟨s0, s1, s2, s3, s4, s5, s6, s7, s8⟩
        go_simp
        rfl
      simp only [Act.put, List.setIfInBounds_toArray, List.set_cons_zero, List.set_cons_succ]
    have hBd : Below w.heap.size w W2.drew := hB2.drew
    have z0 : Blk W2.drew w.heap.size #[.int .i64 6, .int .i64 n, .slice (some ⟨bl, off, none⟩) sn scap] 27 := x0
    have z1 : Blk W2.drew (w.heap.size + 1) #[.bool vl, .int .i64 vn, .slice vad vk vcap] 45 := x1
    clear HS0 hB2 x0 x1 f0 f1 f2 g0 g1 g2 d0 d1 d2
    generalize W2.drew = WD at *
    have HS : Hid (∀ W', Below WD.heap.size WD W' → (fun w' => w'.cell? ⟨w.heap.size, 0, none⟩ = some (.int .i64 6) ∧ w'.cell? ⟨w.heap.size, 1, none⟩ = some (.int .i64 n) ∧ w'.cell? ⟨w.heap.size, 2, none⟩ = some (.slice (some ⟨bl, off, none⟩) sn scap) ∧ w'.cell? ⟨w.heap.size + 1, 0, none⟩ = some (.bool vl) ∧ w'.cell? ⟨w.heap.size + 1, 1, none⟩ = some (.int .i64 vn) ∧ w'.cell? ⟨w.heap.size + 1, 2, none⟩ = some (.slice vad vk vcap) ∧ w'.cell? ⟨bl, off + 3, none⟩ = some (.int .i64 k1) ∧ w'.cell? ⟨bl, off + 3 + 1, none⟩ = some (.int .i64 n1) ∧ w'.cell? ⟨bl, off + 3 + 2, none⟩ = some (.slice ad1 t1 cap1)) W') := fun W' h => by
      have zz := hBd.size
      exact ⟨(z0.ext h).cell 0, (z0.ext h).cell 1, (z0.ext h).cell 2, (z1.ext h).cell 0, (z1.ext h).cell 1, (z1.ext h).cell 2, ((hBd.trans (h.mono hBd.size)).cell (p := ⟨bl, _, none⟩) hbl).trans c10, ((hBd.trans (h.mono hBd.size)).cell (p := ⟨bl, _, none⟩) hbl).trans c11, ((hBd.trans (h.mono hBd.size)).cell (p := ⟨bl, _, none⟩) hbl).trans c12⟩
    rw [mov_step]
    simp only [List.getElem?_toArray, List.getElem?_cons_succ, List.getElem?_cons_zero]
    go_wp2_with fail
    refine (hc1.out WD hBd).mono ?_
    rintro e W3 ⟨rfl, hb⟩
    have hS2 := HS.out W3 hb
    have HS2 := Lib.hid hS2
    clear hS2
    go_wp2_with fail
    refine And.intro (fun _ => HS2.out) ?_
    iterate 3
      rw [mov_take]
      simp only [List.getElem?_toArray, List.getElem?_cons_succ, List.getElem?_cons_zero]
      refine ⟨?_, .inl ⟨by rfl, ?_⟩, HS2.out, ?_⟩
      rotate_left
      · rintro w' _
        go_simp
        rfl
      simp only [Act.put, List.setIfInBounds_toArray, List.set_cons_zero, List.set_cons_succ]
    rw [mov_step]
    simp only [List.getElem?_toArray, List.getElem?_cons_succ, List.getElem?_cons_zero]
    go_wp2_with fail
    refine And.intro (fun _ => HS2.out) ?_
    rw [mov_step]
    simp only [List.getElem?_toArray, List.getElem?_cons_succ, List.getElem?_cons_zero]
    go_wp2_with fail
    refine And.intro (fun h => absurd h (by omega)) ?_
    rw [wpMov]
    have x0 := z0.ext hb
    have x1 := z1.ext hb
    have hB3 : Below w.heap.size w W3 := hBd.trans (hb.mono hBd.size)
    clear HS HS2 hBd z0 z1 hb
    have f0 := x0.cell 0
    have f1 := x0.cell 1
    have f2 := x0.cell 2
    simp only [List.getElem?_toArray, List.getElem?_cons_succ, List.getElem?_cons_zero] at f0 f1 f2
    have g0 := x1.cell 0
    have g1 := x1.cell 1
    have g2 := x1.cell 2
    simp only [List.getElem?_toArray, List.getElem?_cons_succ, List.getElem?_cons_zero] at g0 g1 g2
    cases r1 with
    | none =>
      dsimp only [Option.getD_none, Option.isSome_none]
      go_wp2_with fail
      go_ret2
      exact ⟨rfl, hB3⟩
    | some b =>
      dsimp only [Option.getD_some, Option.isSome_some]
      by_cases hb0 : b = 0
      · subst hb0
        go_wp2_with fail
        go_ret2
        exact ⟨rfl, hB3⟩
      · have qb : (b == 0) = false := by simpa using hb0
        have HX : Hid (toldK 6 (some a) (some b) = some (a.tmod b)) := by show _ = _; simp [toldK, hb0]
        go_wp2_with fail
        go_ret2
        exact ⟨by rw [HX.out]; rfl, hB3⟩
set_option maxHeartbeats 2000000 in
theorem rtold_less (HL : Hid (LvR w (.agg #[.bool vl, .int .i64 vn, .slice vad vk vcap]) L)) (H0 : Hid (SubR w 0 ad (.agg #[.bool vl, .int .i64 vn, .slice vad vk vcap]) r0)) (H1 : Hid (SubR w 1 ad (.agg #[.bool vl, .int .i64 vn, .slice vad vk vcap]) r1)) (hsn : 1 < sn) :
    Calls Tryz.prog 67 #[.agg #[.int .i64 7, .int .i64 n, .slice ad sn scap], .agg #[.bool vl, .int .i64 vn, .slice vad vk vcap]] w (TldR (toldK 7 r0 r1) w) := by
  obtain ⟨bl, off, k0, n0, t0, ad0, cap0, rfl, hbl, c00, c01, c02, hc0⟩ := H0.out
  have hc0 := Lib.hid hc0
  simp only [Nat.zero_mul, Nat.add_zero] at c00 c01 c02
  obtain ⟨bl1, off1, k1, n1, t1, ad1, cap1, e1, hbl1, c10, c11, c12, hc1⟩ := H1.out
  simp only [Option.some.injEq, Addr.mk.injEq, and_true] at e1
  obtain ⟨rfl, rfl⟩ := e1
  have hc1 := Lib.hid hc1
  simp only [Nat.one_mul] at c10 c11 c12
  have p0 : (0 : Int) < (sn : Int) := by omega
  have q0 : 0 < sn := by omega
  have p1 : (1 : Int) < (sn : Int) := by omega
  have q1 : 1 < sn := by omega
  go_enter Tryz.func67, Tryz.ntmps67
  go_wp2_with fail
  refine (HL.out _ (by repeat (first | with_reducible assumption | with_reducible exact Below.refl _ _ | with_reducible apply Below.drew | (with_reducible refine Below.alloc ?_ (by first | omega | (simp only [zA, zS, zD, zN]; omega) | (dsimp only; omega) | (simp only [zA, zS, zD, zN]; dsimp only; omega)) _) | (with_reducible refine Below.setCell ?_ (by first | omega | (simp only [zA, zS, zD, zN]; omega) | (dsimp only; omega) | (simp only [zA, zS, zD, zN]; dsimp only; omega)) _) | (with_reducible apply below_drewN)))).mono ?_
  rintro e W1 ⟨⟨lv, rfl, hlv⟩, hb⟩
  have x0 : Blk W1 w.heap.size #[.int .i64 7, .int .i64 n, .slice (some ⟨bl, off, none⟩) sn scap] 27 := ((Blk.new w #[.int .i64 7, .int .i64 n, .slice (some ⟨bl, off, none⟩) sn scap] 27).alloc _).ext hb
  have x1 : Blk W1 (w.heap.size + 1) #[.bool vl, .int .i64 vn, .slice vad vk vcap] 45 := (show Blk _ _ _ _ by simpa using Blk.new (w.alloc (.cells #[.int .i64 7, .int .i64 n, .slice (some ⟨bl, off, none⟩) sn scap] 27)) #[.bool vl, .int .i64 vn, .slice vad vk vcap] 45).ext hb
  have hB1 : Below w.heap.size w W1 := Below.trans (by repeat (first | with_reducible assumption | with_reducible exact Below.refl _ _ | with_reducible apply Below.drew | (with_reducible refine Below.alloc ?_ (by first | omega | (simp only [zA, zS, zD, zN]; omega) | (dsimp only; omega) | (simp only [zA, zS, zD, zN]; dsimp only; omega)) _) | (with_reducible refine Below.setCell ?_ (by first | omega | (simp only [zA, zS, zD, zN]; omega) | (dsimp only; omega) | (simp only [zA, zS, zD, zN]; dsimp only; omega)) _) | (with_reducible apply below_drewN))) (hb.mono (by first | omega | (simp only [zA, zS, zD, zN]; omega) | (dsimp only; omega) | (simp only [zA, zS, zD, zN]; dsimp only; omega)))
  clear hb
  have f0 := x0.cell 0
  have f1 := x0.cell 1
  have f2 := x0.cell 2
  simp only [List.getElem?_toArray, List.getElem?_cons_succ, List.getElem?_cons_zero] at f0 f1 f2
  have g0 := x1.cell 0
  have g1 := x1.cell 1
  have g2 := x1.cell 2
  simp only [List.getElem?_toArray, List.getElem?_cons_succ, List.getElem?_cons_zero] at g0 g1 g2
  have d0 := (hB1.cell (p := ⟨bl, _, none⟩) hbl).trans c00
  have d1 := (hB1.cell (p := ⟨bl, _, none⟩) hbl).trans c01
  have d2 := (hB1.cell (p := ⟨bl, _, none⟩) hbl).trans c02
  go_wp2_with fail
  refine region_mov (S := fun w' => w'.cell? ⟨w.heap.size, 0, none⟩ = some (.int .i64 7) ∧ w'.cell? ⟨w.heap.size, 1, none⟩ = some (.int .i64 n) ∧ w'.cell? ⟨w.heap.size, 2, none⟩ = some (.slice (some ⟨bl, off, none⟩) sn scap) ∧ w'.cell? ⟨w.heap.size + 1, 0, none⟩ = some (.bool vl) ∧ w'.cell? ⟨w.heap.size + 1, 1, none⟩ = some (.int .i64 vn) ∧ w'.cell? ⟨w.heap.size + 1, 2, none⟩ = some (.slice vad vk vcap) ∧ w'.cell? ⟨bl, off, none⟩ = some (.int .i64 k0) ∧ w'.cell? ⟨bl, off + 1, none⟩ = some (.int .i64 n0) ∧ w'.cell? ⟨bl, off + 2, none⟩ = some (.slice ad0 t0 cap0)) (n := 10) (ms := [(true, 0), (true, 1), (true, 2), (true, 3), (true, 4), (false, 5), (true, 6), (true, 7), (true, 8), (false, 9), (false, 10)]) (hm := by kernel_rfl) (hB := by kernel_rfl) (hQ := fun c a d v w h => by cases d <;> exact h) ?_
  have HS0 : Hid ((fun w' => w'.cell? ⟨w.heap.size, 0, none⟩ = some (.int .i64 7) ∧ w'.cell? ⟨w.heap.size, 1, none⟩ = some (.int .i64 n) ∧ w'.cell? ⟨w.heap.size, 2, none⟩ = some (.slice (some ⟨bl, off, none⟩) sn scap) ∧ w'.cell? ⟨w.heap.size + 1, 0, none⟩ = some (.bool vl) ∧ w'.cell? ⟨w.heap.size + 1, 1, none⟩ = some (.int .i64 vn) ∧ w'.cell? ⟨w.heap.size + 1, 2, none⟩ = some (.slice vad vk vcap) ∧ w'.cell? ⟨bl, off, none⟩ = some (.int .i64 k0) ∧ w'.cell? ⟨bl, off + 1, none⟩ = some (.int .i64 n0) ∧ w'.cell? ⟨bl, off + 2, none⟩ = some (.slice ad0 t0 cap0)) W1.drew) := ⟨f0, f1, f2, g0, g1, g2, d0, d1, d2⟩
  iterate 5
    rw [mov_take]
    simp only [List.getElem?_toArray, List.getElem?_cons_succ, List.getElem?_cons_zero]
    refine ⟨?_, .inl ⟨by rfl, ?_⟩, HS0.out, ?_⟩
    rotate_left
    · rintro w' ⟨s0, s1, s2, s3, s4, s5, s6, s7, s8⟩
      go_simp
      rfl
    simp only [Act.put, List.setIfInBounds_toArray, List.set_cons_zero, List.set_cons_succ]
  have hBd : Below w.heap.size w W1.drew := hB1.drew
  have z0 : Blk W1.drew w.heap.size #[.int .i64 7, .int .i64 n, .slice (some ⟨bl, off, none⟩) sn scap] 27 := x0
  have z1 : Blk W1.drew (w.heap.size + 1) #[.bool vl, .int .i64 vn, .slice vad vk vcap] 45 := x1
  clear HS0 hB1 x0 x1 f0 f1 f2 g0 g1 g2 d0 d1 d2
  generalize W1.drew = WD at *
  have HS : Hid (∀ W', Below WD.heap.size WD W' → (fun w' => w'.cell? ⟨w.heap.size, 0, none⟩ = some (.int .i64 7) ∧ w'.cell? ⟨w.heap.size, 1, none⟩ = some (.int .i64 n) ∧ w'.cell? ⟨w.heap.size, 2, none⟩ = some (.slice (some ⟨bl, off, none⟩) sn scap) ∧ w'.cell? ⟨w.heap.size + 1, 0, none⟩ = some (.bool vl) ∧ w'.cell? ⟨w.heap.size + 1, 1, none⟩ = some (.int .i64 vn) ∧ w'.cell? ⟨w.heap.size + 1, 2, none⟩ = some (.slice vad vk vcap) ∧ w'.cell? ⟨bl, off, none⟩ = some (.int .i64 k0) ∧ w'.cell? ⟨bl, off + 1, none⟩ = some (.int .i64 n0) ∧ w'.cell? ⟨bl, off + 2, none⟩ = some (.slice ad0 t0 cap0)) W') := fun W' h => by
    have zz := hBd.size
    exact ⟨(z0.ext h).cell 0, (z0.ext h).cell 1, (z0.ext h).cell 2, (z1.ext h).cell 0, (z1.ext h).cell 1, (z1.ext h).cell 2, ((hBd.trans (h.mono hBd.size)).cell (p := ⟨bl, _, none⟩) hbl).trans c00, ((hBd.trans (h.mono hBd.size)).cell (p := ⟨bl, _, none⟩) hbl).trans c01, ((hBd.trans (h.mono hBd.size)).cell (p := ⟨bl, _, none⟩) hbl).trans c02⟩
  rw [mov_step]
  simp only [List.getElem?_toArray, List.getElem?_cons_succ, List.getElem?_cons_zero]
  go_wp2_with fail
  refine (hc0.out WD hBd).mono ?_
  rintro e W2 ⟨rfl, hb⟩
  have hS2 := HS.out W2 hb
  have HS2 := Lib.hid hS2
  clear hS2
  go_wp2_with fail
  refine And.intro (fun _ => HS2.out) ?_
  iterate 3
    rw [mov_take]
    simp only [List.getElem?_toArray, List.getElem?_cons_succ, List.getElem?_cons_zero]
    refine ⟨?_, .inl ⟨by rfl, ?_⟩, HS2.out, ?_⟩
    rotate_left
    · rintro w' _
      go_simp
      rfl
    simp only [Act.put, List.setIfInBounds_toArray, List.set_cons_zero, List.set_cons_succ]
  rw [mov_step]
  simp only [List.getElem?_toArray, List.getElem?_cons_succ, List.getElem?_cons_zero]
  go_wp2_with fail
  refine And.intro (fun _ => HS2.out) ?_
  rw [mov_step]
  simp only [List.getElem?_toArray, List.getElem?_cons_succ, List.getElem?_cons_zero]
  go_wp2_with fail
  refine And.intro (fun h => absurd h (by omega)) ?_
  rw [wpMov]
  have x0 := z0.ext hb
  have x1 := z1.ext hb
  have hB2 : Below w.heap.size w W2 := hBd.trans (hb.mono hBd.size)
  clear HS HS2 hBd z0 z1 hb
  have f0 := x0.cell 0
  have f1 := x0.cell 1
  have f2 := x0.cell 2
  simp only [List.getElem?_toArray, List.getElem?_cons_succ, List.getElem?_cons_zero] at f0 f1 f2
  have g0 := x1.cell 0
  have g1 := x1.cell 1
  have g2 := x1.cell 2
  simp only [List.getElem?_toArray, List.getElem?_cons_succ, List.getElem?_cons_zero] at g0 g1 g2
  cases r0 with
  | none =>
    dsimp only [Option.getD_none, Option.isSome_none]
    go_wp2_with (go_at_call 84; refine (rone_any _ _).mono ?_; rintro e w' ⟨rfl, rfl⟩)
    go_ret2
    exact ⟨rfl, hB2⟩
  | some a =>
    dsimp only [Option.getD_some, Option.isSome_some]
    clear f0 f1 f2 g0 g1 g2
    have f0 := x0.cell 0
    have f1 := x0.cell 1
    have f2 := x0.cell 2
    simp only [List.getElem?_toArray, List.getElem?_cons_succ, List.getElem?_cons_zero] at f0 f1 f2
    have g0 := x1.cell 0
    have g1 := x1.cell 1
    have g2 := x1.cell 2
    simp only [List.getElem?_toArray, List.getElem?_cons_succ, List.getElem?_cons_zero] at g0 g1 g2
    have d0 := (hB2.cell (p := ⟨bl, _, none⟩) hbl).trans c10
    have d1 := (hB2.cell (p := ⟨bl, _, none⟩) hbl).trans c11
    have d2 := (hB2.cell (p := ⟨bl, _, none⟩) hbl).trans c12
    go_wp2_with fail
    refine region_mov (S := fun w' => w'.cell? ⟨w.heap.size, 0, none⟩ = some (.int .i64 7) ∧ w'.cell? ⟨w.heap.size, 1, none⟩ = some (.int .i64 n) ∧ w'.cell? ⟨w.heap.size, 2, none⟩ = some (.slice (some ⟨bl, off, none⟩) sn scap) ∧ w'.cell? ⟨w.heap.size + 1, 0, none⟩ = some (.bool vl) ∧ w'.cell? ⟨w.heap.size + 1, 1, none⟩ = some (.int .i64 vn) ∧ w'.cell? ⟨w.heap.size + 1, 2, none⟩ = some (.slice vad vk vcap) ∧ w'.cell? ⟨bl, off + 3, none⟩ = some (.int .i64 k1) ∧ w'.cell? ⟨bl, off + 3 + 1, none⟩ = some (.int .i64 n1) ∧ w'.cell? ⟨bl, off + 3 + 2, none⟩ = some (.slice ad1 t1 cap1)) (n := 10) (ms := [(true, 0), (true, 1), (true, 2), (true, 3), (true, 4), (false, 5), (true, 6), (true, 7), (true, 8), (false, 9), (false, 10)]) (hm := by kernel_rfl) (hB := by kernel_rfl) (hQ := fun c a d v w h => by cases d <;> exact h) ?_
    have HS0 : Hid ((fun w' => w'.cell? ⟨w.heap.size, 0, none⟩ = some (.int .i64 7) ∧ w'.cell? ⟨w.heap.size, 1, none⟩ = some (.int .i64 n) ∧ w'.cell? ⟨w.heap.size, 2, none⟩ = some (.slice (some ⟨bl, off, none⟩) sn scap) ∧ w'.cell? ⟨w.heap.size + 1, 0, none⟩ = some (.bool vl) ∧ w'.cell? ⟨w.heap.size + 1, 1, none⟩ = some (.int .i64 vn) ∧ w'.cell? ⟨w.heap.size + 1, 2, none⟩ = some (.slice vad vk vcap) ∧ w'.cell? ⟨bl, off + 3, none⟩ = some (.int .i64 k1) ∧ w'.cell? ⟨bl, off + 3 + 1, none⟩ = some (.int .i64 n1) ∧ w'.cell? ⟨bl, off + 3 + 2, none⟩ = some (.slice ad1 t1 cap1)) W2.drew) := ⟨f0, f1, f2, g0, g1, g2, d0, d1, d2⟩
    iterate 5
      rw [mov_take]
      simp only [List.getElem?_toArray, List.getElem?_cons_succ, List.getElem?_cons_zero]
      refine ⟨?_, .inl ⟨by rfl, ?_⟩, HS0.out, ?_⟩
      rotate_left
      · rintro w' ⟨s0, s1, s2, s3, s4, s5, s6, s7, s8⟩
        go_simp
        rfl
      simp only [Act.put, List.setIfInBounds_toArray, List.set_cons_zero, List.set_cons_succ]
    have hBd : Below w.heap.size w W2.drew := hB2.drew
    have z0 : Blk W2.drew w.heap.size #[.int .i64 7, .int .i64 n, .slice (some ⟨bl, off, none⟩) sn scap] 27 := x0
    have z1 : Blk W2.drew (w.heap.size + 1) #[.bool vl, .int .i64 vn, .slice vad vk vcap] 45 := x1
    clear HS0 hB2 x0 x1 f0 f1 f2 g0 g1 g2 d0 d1 d2
    generalize W2.drew = WD at *
    have HS : Hid (∀ W', Below WD.heap.size WD W' → (fun w' => w'.cell? ⟨w.heap.size, 0, none⟩ = some (.int .i64 7) ∧ w'.cell? ⟨w.heap.size, 1, none⟩ = some (.int .i64 n) ∧ w'.cell? ⟨w.heap.size, 2, none⟩ = some (.slice (some ⟨bl, off, none⟩) sn scap) ∧ w'.cell? ⟨w.heap.size + 1, 0, none⟩ = some (.bool vl) ∧ w'.cell? ⟨w.heap.size + 1, 1, none⟩ = some (.int .i64 vn) ∧ w'.cell? ⟨w.heap.size + 1, 2, none⟩ = some (.slice vad vk vcap) ∧ w'.cell? ⟨bl, off + 3, none⟩ = some (.int .i64 k1) ∧ w'.cell? ⟨bl, off + 3 + 1, none⟩ = some (.int .i64 n1) ∧ w'.cell? ⟨bl, off + 3 + 2, none⟩ = some (.slice ad1 t1 cap1)) W') := fun W' h => by
      have zz := hBd.size
      exact ⟨(z0.ext h).cell 0, (z0.ext h).cell 1, (z0.ext h).cell 2, (z1.ext h).cell 0, (z1.ext h).cell 1, (z1.ext h).cell 2, ((hBd.trans (h.mono hBd.size)).cell (p := ⟨bl, _, none⟩) hbl).trans c10, ((hBd.trans (h.mono hBd.size)).cell (p := ⟨bl, _, none⟩) hbl).trans c11, ((hBd.trans (h.mono hBd.size)).cell (p := ⟨bl, _, none⟩) hbl).trans c12⟩
    rw [mov_step]
    simp only [List.getElem?_toArray, List.getElem?_cons_succ, List.getElem?_cons_zero]
    go_wp2_with fail
    refine (hc1.out WD hBd).mono ?_
    rintro e W3 ⟨rfl, hb⟩
    have hS2 := HS.out W3 hb
    have HS2 := Lib.hid hS2
    clear hS2
    go_wp2_with fail
    refine And.intro (fun _ => HS2.out) ?_
    iterate 3
      rw [mov_take]
      simp only [List.getElem?_toArray, List.getElem?_cons_succ, List.getElem?_cons_zero]
      refine ⟨?_, .inl ⟨by rfl, ?_⟩, HS2.out, ?_⟩
      rotate_left
      · rintro w' _
        go_simp
        rfl
      simp only [Act.put, List.setIfInBounds_toArray, List.set_cons_zero, List.set_cons_succ]
    rw [mov_step]
    simp only [List.getElem?_toArray, List.getElem?_cons_succ, List.getElem?_cons_zero]
    go_wp2_with fail
    refine And.intro (fun _ => HS2.out) ?_
    rw [mov_step]
    simp only [List.getElem?_toArray, List.getElem?_cons_succ, List.getElem?_cons_zero]
    go_wp2_with fail
    refine And.intro (fun h => absurd h (by omega)) ?_
    rw [wpMov]
    have x0 := z0.ext hb
    have x1 := z1.ext hb
    have hB3 : Below w.heap.size w W3 := hBd.trans (hb.mono hBd.size)
    clear HS HS2 hBd z0 z1 hb
    have f0 := x0.cell 0
    have f1 := x0.cell 1
    have f2 := x0.cell 2
    simp only [List.getElem?_toArray, List.getElem?_cons_succ, List.getElem?_cons_zero] at f0 f1 f2
    have g0 := x1.cell 0
    have g1 := x1.cell 1
    have g2 := x1.cell 2
    simp only [List.getElem?_toArray, List.getElem?_cons_succ, List.getElem?_cons_zero] at g0 g1 g2
    cases r1 with
    | none =>
      dsimp only [Option.getD_none, Option.isSome_none]
      go_wp2_with fail
      go_ret2
      exact ⟨rfl, hB3⟩
    | some b =>
      dsimp only [Option.getD_some, Option.isSome_some]
      have HX : Hid (toldK 7 (some a) (some b) = some (truth (decide (a < b)))) := by show _ = _; simp [toldK]
      go_wp2_with (go_at_call 84; refine (rone_any _ _).mono ?_; rintro e w' ⟨rfl, rfl⟩)
      go_ret2
      exact ⟨by rw [HX.out]; rfl, hB3⟩
set_option maxHeartbeats 2000000 in
theorem rtold_same (HL : Hid (LvR w (.agg #[.bool vl, .int .i64 vn, .slice vad vk vcap]) L)) (H0 : Hid (SubR w 0 ad (.agg #[.bool vl, .int .i64 vn, .slice vad vk vcap]) r0)) (H1 : Hid (SubR w 1 ad (.agg #[.bool vl, .int .i64 vn, .slice vad vk vcap]) r1)) (hsn : 1 < sn) :
    Calls Tryz.prog 67 #[.agg #[.int .i64 8, .int .i64 n, .slice ad sn scap], .agg #[.bool vl, .int .i64 vn, .slice vad vk vcap]] w (TldR (toldK 8 r0 r1) w) := by
  obtain ⟨bl, off, k0, n0, t0, ad0, cap0, rfl, hbl, c00, c01, c02, hc0⟩ := H0.out
  have hc0 := Lib.hid hc0
  simp only [Nat.zero_mul, Nat.add_zero] at c00 c01 c02
  obtain ⟨bl1, off1, k1, n1, t1, ad1, cap1, e1, hbl1, c10, c11, c12, hc1⟩ := H1.out
  simp only [Option.some.injEq, Addr.mk.injEq, and_true] at e1
  obtain ⟨rfl, rfl⟩ := e1
  have hc1 := Lib.hid hc1
  simp only [Nat.one_mul] at c10 c11 c12
  have p0 : (0 : Int) < (sn : Int) := by omega
  have q0 : 0 < sn := by omega
  have p1 : (1 : Int) < (sn : Int) := by omega
  have q1 : 1 < sn := by omega
  go_enter Tryz.func67, Tryz.ntmps67
  go_wp2_with fail
  refine (HL.out _ (by repeat (first | with_reducible assumption | with_reducible exact Below.refl _ _ | with_reducible apply Below.drew | (with_reducible refine Below.alloc ?_ (by first | omega | (simp only [zA, zS, zD, zN]; omega) | (dsimp only; omega) | (simp only [zA, zS, zD, zN]; dsimp only; omega)) _) | (with_reducible refine Below.setCell ?_ (by first | omega | (simp only [zA, zS, zD, zN]; omega) | (dsimp only; omega) | (simp only [zA, zS, zD, zN]; dsimp only; omega)) _) | (with_reducible apply below_drewN)))).mono ?_
  rintro e W1 ⟨⟨lv, rfl, hlv⟩, hb⟩
  have x0 : Blk W1 w.heap.size #[.int .i64 8, .int .i64 n, .slice (some ⟨bl, off, none⟩) sn scap] 27 := ((Blk.new w #[.int .i64 8, .int .i64 n, .slice (some ⟨bl, off, none⟩) sn scap] 27).alloc _).ext hb
  have x1 : Blk W1 (w.heap.size + 1) #[.bool vl, .int .i64 vn, .slice vad vk vcap] 45 := (show Blk _ _ _ _ by simpa using Blk.new (w.alloc (.cells #[.int .i64 8, .int .i64 n, .slice (some ⟨bl, off, none⟩) sn scap] 27)) #[.bool vl, .int .i64 vn, .slice vad vk vcap] 45).ext hb
  have hB1 : Below w.heap.size w W1 := Below.trans (by repeat (first | with_reducible assumption | with_reducible exact Below.refl _ _ | with_reducible apply Below.drew | (with_reducible refine Below.alloc ?_ (by first | omega | (simp only [zA, zS, zD, zN]; omega) | (dsimp only; omega) | (simp only [zA, zS, zD, zN]; dsimp only; omega)) _) | (with_reducible refine Below.setCell ?_ (by first | omega | (simp only [zA, zS, zD, zN]; omega) | (dsimp only; omega) | (simp only [zA, zS, zD, zN]; dsimp only; omega)) _) | (with_reducible apply below_drewN))) (hb.mono (by first | omega | (simp only [zA, zS, zD, zN]; omega) | (dsimp only; omega) | (simp only [zA, zS, zD, zN]; dsimp only; omega)))
  clear hb
  have f0 := x0.cell 0
  have f1 := x0.cell 1
  have f2 := x0.cell 2
  simp only [List.getElem?_toArray, List.getElem?_cons_succ, List.getElem?_cons_zero] at f0 f1 f2
  have g0 := x1.cell 0
  have g1 := x1.cell 1
  have g2 := x1.cell 2
  simp only [List.getElem?_toArray, List.getElem?_cons_succ, List.getElem?_cons_zero] at g0 g1 g2
  have d0 := (hB1.cell (p := ⟨bl, _, none⟩) hbl).trans c00
  have d1 := (hB1.cell (p := ⟨bl, _, none⟩) hbl).trans c01
  have d2 := (hB1.cell (p := ⟨bl, _, none⟩) hbl).trans c02
  go_wp2_with fail
  refine region_mov (S := fun w' => w'.cell? ⟨w.heap.size, 0, none⟩ = some (.int .i64 8) ∧ w'.cell? ⟨w.heap.size, 1, none⟩ = some (.int .i64 n) ∧ w'.cell? ⟨w.heap.size, 2, none⟩ = some (.slice (some ⟨bl, off, none⟩) sn scap) ∧ w'.cell? ⟨w.heap.size + 1, 0, none⟩ = some (.bool vl) ∧ w'.cell? ⟨w.heap.size + 1, 1, none⟩ = some (.int .i64 vn) ∧ w'.cell? ⟨w.heap.size + 1, 2, none⟩ = some (.slice vad vk vcap) ∧ w'.cell? ⟨bl, off, none⟩ = some (.int .i64 k0) ∧ w'.cell? ⟨bl, off + 1, none⟩ = some (.int .i64 n0) ∧ w'.cell? ⟨bl, off + 2, none⟩ = some (.slice ad0 t0 cap0)) (n := 10) (ms := [(true, 0), (true, 1), (true, 2), (true, 3), (true, 4), (false, 5), (true, 6), (true, 7), (true, 8), (false, 9), (false, 10)]) (hm := by kernel_rfl) (hB := by kernel_rfl) (hQ := fun c a d v w h => by cases d <;> exact h) ?_
  have HS0 : Hid ((fun w' => w'.cell? ⟨w.heap.size, 0, none⟩ = some (.int .i64 8) ∧ w'.cell? ⟨w.heap.size, 1, none⟩ = some (.int .i64 n) ∧ w'.cell? ⟨w.heap.size, 2, none⟩ = some (.slice (some ⟨bl, off, none⟩) sn scap) ∧ w'.cell? ⟨w.heap.size + 1, 0, none⟩ = some (.bool vl) ∧ w'.cell? ⟨w.heap.size + 1, 1, none⟩ = some (.int .i64 vn) ∧ w'.cell? ⟨w.heap.size + 1, 2, none⟩ = some (.slice vad vk vcap) ∧ w'.cell? ⟨bl, off, none⟩ = some (.int .i64 k0) ∧ w'.cell? ⟨bl, off + 1, none⟩ = some (.int .i64 n0) ∧ w'.cell? ⟨bl, off + 2, none⟩ = some (.slice ad0 t0 cap0)) W1.drew) := ⟨f0, f1, f2, g0, g1, g2, d0, d1, d2⟩
  iterate 5
    rw [mov_take]
    simp only [List.getElem?_toArray, List.getElem?_cons_succ, List.getElem?_cons_zero]
    refine ⟨?_, .inl ⟨by rfl, ?_⟩, HS0.out, ?_⟩
    rotate_left
    · rintro w' ⟨s0, s1, s2, s3, s4, s5, s6, s7, s8⟩
      go_simp
      rfl
    simp only [Act.put, List.setIfInBounds_toArray, List.set_cons_zero, List.set_cons_succ]
  have hBd : Below w.heap.size w W1.drew := hB1.drew
  have z0 : Blk W1.drew w.heap.size #[.int .i64 8, .int .i64 n, .slice (some ⟨bl, off, none⟩) sn scap] 27 := x0
  have z1 : Blk W1.drew (w.heap.size + 1) #[.bool vl, .int .i64 vn, .slice vad vk vcap] 45 := x1
  clear HS0 hB1 x0 x1 f0 f1 f2 g0 g1 g2 d0 d1 d2
  generalize W1.drew = WD at *
  have HS : Hid (∀ W', Below WD.heap.size WD W' → (fun w' => w'.cell? ⟨w.heap.size, 0, none⟩ = some (.int .i64 8) ∧ w'.cell? ⟨w.heap.size, 1, none⟩ = some (.int .i64 n) ∧ w'.cell? ⟨w.heap.size, 2, none⟩ = some (.slice (some ⟨bl, off, none⟩) sn scap) ∧ w'.cell? ⟨w.heap.size + 1, 0, none⟩ = some (.bool vl) ∧ w'.cell? ⟨w.heap.size + 1, 1, none⟩ = some (.int .i64 vn) ∧ w'.cell? ⟨w.heap.size + 1, 2, none⟩ = some (.slice vad vk vcap) ∧ w'.cell? ⟨bl, off, none⟩ = some (.int .i64 k0) ∧ w'.cell? ⟨bl, off + 1, none⟩ = some (.int .i64 n0) ∧ w'.cell? ⟨bl, off + 2, none⟩ = some (.slice ad0 t0 cap0)) W') := fun W' h => by
    have zz := hBd.size
    exact ⟨(z0.ext h).cell 0, (z0.ext h).cell 1, (z0.ext h).cell 2, (z1.ext h).cell 0, (z1.ext h).cell 1, (z1.ext h).cell 2, ((hBd.trans (h.mono hBd.size)).cell (p := ⟨bl, _, none⟩) hbl).trans c00, ((hBd.trans (h.mono hBd.size)).cell (p := ⟨bl, _, none⟩) hbl).trans c01, ((hBd.trans (h.mono hBd.size)).cell (p := ⟨bl, _, none⟩) hbl).trans c02⟩
  rw [mov_step]
  simp only [List.getElem?_toArray, List.getElem?_cons_succ, List.getElem?_cons_zero]
  go_wp2_with fail
  refine (hc0.out WD hBd).mono ?_
  rintro e W2 ⟨rfl, hb⟩
  have hS2 := HS.out W2 hb
  have HS2 := Lib.hid hS2
  clear hS2
  go_wp2_with fail
  refine And.intro (fun _ => HS2.out) ?_
  iterate 3
    rw [mov_take]
    simp only [List.getElem?_toArray, List.getElem?_cons_succ, List.getElem?_cons_zero]
    refine ⟨?_, .inl ⟨by rfl, ?_⟩, HS2.out, ?_⟩
    rotate_left
    · rintro w' _
      go_simp
      rfl
    simp only [Act.put, List.setIfInBounds_toArray, List.set_cons_zero, List.set_cons_succ]
  rw [mov_step]
  simp only [List.getElem?_toArray, List.getElem?_cons_succ, List.getElem?_cons_zero]
  go_wp2_with fail
  refine And.intro (fun _ => HS2.out) ?_
  rw [mov_step]
  simp only [List.getElem?_toArray, List.getElem?_cons_succ, List.getElem?_cons_zero]
  go_wp2_with fail
  refine And.intro (fun h => absurd h (by omega)) ?_
  rw [wpMov]
  have x0 := z0.ext hb
  have x1 := z1.ext hb
  have hB2 : Below w.heap.size w W2 := hBd.trans (hb.mono hBd.size)
  clear HS HS2 hBd z0 z1 hb
  have f0 := x0.cell 0
  have f1 := x0.cell 1
  have f2 := x0.cell 2
  simp only [List.getElem?_toArray, List.getElem?_cons_succ, List.getElem?_cons_zero] at f0 f1 f2
  have g0 := x1.cell 0
  have g1 := x1.cell 1
  have g2 := x1.cell 2
  simp only [List.getElem?_toArray, List.getElem?_cons_succ, List.getElem?_cons_zero] at g0 g1 g2
  cases r0 with
  | none =>
    dsimp only [Option.getD_none, Option.isSome_none]
    go_wp2_with (go_at_call 84; refine (rone_any _ _).mono ?_; rintro e w' ⟨rfl, rfl⟩)
    go_ret2
    exact ⟨rfl, hB2⟩
  | some a =>
    dsimp only [Option.getD_some, Option.isSome_some]
    clear f0 f1 f2 g0 g1 g2
    have f0 := x0.cell 0
    have f1 := x0.cell 1
    have f2 := x0.cell 2
    simp only [List.getElem?_toArray, List.getElem?_cons_succ, List.getElem?_cons_zero] at f0 f1 f2
    have g0 := x1.cell 0
    have g1 := x1.cell 1
    have g2 := x1.cell 2
    simp only [List.getElem?_toArray, List.getElem?_cons_succ, List.getElem?_cons_zero] at g0 g1 g2
    have d0 := (hB2.cell (p := ⟨bl, _, none⟩) hbl).trans c10
    have d1 := (hB2.cell (p := ⟨bl, _, none⟩) hbl).trans c11
    have d2 := (hB2.cell (p := ⟨bl, _, none⟩) hbl).trans c12
    go_wp2_with fail
    refine region_mov (S := fun w' => w'.cell? ⟨w.heap.size, 0, none⟩ = some (.int .i64 8) ∧ w'.cell? ⟨w.heap.size, 1, none⟩ = some (.int .i64 n) ∧ w'.cell? ⟨w.heap.size, 2, none⟩ = some (.slice (some ⟨bl, off, none⟩) sn scap) ∧ w'.cell? ⟨w.heap.size + 1, 0, none⟩ = some (.bool vl) ∧ w'.cell? ⟨w.heap.size + 1, 1, none⟩ = some (.int .i64 vn) ∧ w'.cell? ⟨w.heap.size + 1, 2, none⟩ = some (.slice vad vk vcap) ∧ w'.cell? ⟨bl, off + 3, none⟩ = some (.int .i64 k1) ∧ w'.cell? ⟨bl, off + 3 + 1, none⟩ = some (.int .i64 n1) ∧ w'.cell? ⟨bl, off + 3 + 2, none⟩ = some (.slice ad1 t1 cap1)) (n := 10) (ms := [(true, 0), (true, 1), (true, 2), (true, 3), (true, 4), (false, 5), (true, 6), (true, 7), (true, 8), (false, 9), (false, 10)]) (hm := by kernel_rfl) (hB := by kernel_rfl) (hQ := fun c a d v w h => by cases d <;> exact h) ?_
    have HS0 : Hid ((fun w' => w'.cell? ⟨w.heap.size, 0, none⟩ = some (.int .i64 8) ∧ w'.cell? ⟨w.heap.size, 1, none⟩ = some (.int .i64 n) ∧ w'.cell? ⟨w.heap.size, 2, none⟩ = some (.slice (some ⟨bl, off, none⟩) sn scap) ∧ w'.cell? ⟨w.heap.size + 1, 0, none⟩ = some (.bool vl) ∧ w'.cell? ⟨w.heap.size + 1, 1, none⟩ = some (.int .i64 vn) ∧ w'.cell? ⟨w.heap.size + 1, 2, none⟩ = some (.slice vad vk vcap) ∧ w'.cell? ⟨bl, off + 3, none⟩ = some (.int .i64 k1) ∧ w'.cell? ⟨bl, off + 3 + 1, none⟩ = some (.int .i64 n1) ∧ w'.cell? ⟨bl, off + 3 + 2, none⟩ = some (.slice ad1 t1 cap1)) W2.drew) := ⟨f0, f1, f2, g0, g1, g2, d0, d1, d2⟩
    iterate 5
      rw [mov_take]
      simp only [List.getElem?_toArray, List.getElem?_cons_succ, List.getElem?_cons_zero]
      refine ⟨?_, .inl ⟨by rfl, ?_⟩, HS0.out, ?_⟩
      rotate_left
      · rintro w' ⟨s0, s1, s2, s3, s4, s5, s6, s7, s8⟩
        go_simp
        rfl
      simp only [Act.put, List.setIfInBounds_toArray, List.set_cons_zero, List.set_cons_succ]
    have hBd : Below w.heap.size w W2.drew := hB2.drew
    have z0 : Blk W2.drew w.heap.size #[.int .i64 8, .int .i64 n, .slice (some ⟨bl, off, none⟩) sn scap] 27 := x0
    have z1 : Blk W2.drew (w.heap.size + 1) #[.bool vl, .int .i64 vn, .slice vad vk vcap] 45 := x1
    clear HS0 hB2 x0 x1 f0 f1 f2 g0 g1 g2 d0 d1 d2
    generalize W2.drew = WD at *
    have HS : Hid (∀ W', Below WD.heap.size WD W' → (fun w' => w'.cell? ⟨w.heap.size, 0, none⟩ = some (.int .i64 8) ∧ w'.cell? ⟨w.heap.size, 1, none⟩ = some (.int .i64 n) ∧ w'.cell? ⟨w.heap.size, 2, none⟩ = some (.slice (some ⟨bl, off, none⟩) sn scap) ∧ w'.cell? ⟨w.heap.size + 1, 0, none⟩ = some (.bool vl) ∧ w'.cell? ⟨w.heap.size + 1, 1, none⟩ = some (.int .i64 vn) ∧ w'.cell? ⟨w.heap.size + 1, 2, none⟩ = some (.slice vad vk vcap) ∧ w'.cell? ⟨bl, off + 3, none⟩ = some (.int .i64 k1) ∧ w'.cell? ⟨bl, off + 3 + 1, none⟩ = some (.int .i64 n1) ∧ w'.cell? ⟨bl, off + 3 + 2, none⟩ = some (.slice ad1 t1 cap1)) W') := fun W' h => by
      have zz := hBd.size
      exact ⟨(z0.ext h).cell 0, (z0.ext h).cell 1, (z0.ext h).cell 2, (z1.ext h).cell 0, (z1.ext h).cell 1, (z1.ext h).cell 2, ((hBd.trans (h.mono hBd.size)).cell (p := ⟨bl, _, none⟩) hbl).trans c10, ((hBd.trans (h.mono hBd.size)).cell (p := ⟨bl, _, none⟩) hbl).trans c11, ((hBd.trans (h.mono hBd.size)).cell (p := ⟨bl, _, none⟩) hbl).trans c12⟩
    rw [mov_step]
    simp only [List.getElem?_toArray, List.getElem?_cons_succ, List.getElem?_cons_zero]
    go_wp2_with fail
    refine (hc1.out WD hBd).mono ?_
    rintro e W3 ⟨rfl, hb⟩
    have hS2 := HS.out W3 hb
    have HS2 := Lib.hid hS2
    clear hS2
    go_wp2_with fail
    refine And.intro (fun _ => HS2.out) ?_
    iterate 3
      rw [mov_take]
      simp only [List.getElem?_toArray, List.getElem?_cons_succ, List.getElem?_cons_zero]
      refine ⟨?_, .inl ⟨by rfl, ?_⟩, HS2.out, ?_⟩
      rotate_left
      · rintro w' _
        go_simp
        rfl
      simp only [Act.put, List.setIfInBounds_toArray, List.set_cons_zero, List.set_cons_succ]
    rw [mov_step]
    simp only [List.getElem?_toArray, List.getElem?_cons_succ, List.getElem?_cons_zero]
    go_wp2_with fail
    refine And.intro (fun _ => HS2.out) ?_
    rw [mov_step]
    simp only [List.getElem?_toArray, List.getElem?_cons_succ, List.getElem?_cons_zero]
    go_wp2_with fail
    refine And.intro (fun h => absurd h (by omega)) ?_
    rw [wpMov]
    have x0 := z0.ext hb
    have x1 := z1.ext hb
    have hB3 : Below w.heap.size w W3 := hBd.trans (hb.mono hBd.size)
    clear HS HS2 hBd z0 z1 hb
    have f0 := x0.cell 0
    have f1 := x0.cell 1
    have f2 := x0.cell 2
    simp only [List.getElem?_toArray, List.getElem?_cons_succ, List.getElem?_cons_zero] at f0 f1 f2
    have g0 := x1.cell 0
    have g1 := x1.cell 1
    have g2 := x1.cell 2
    simp only [List.getElem?_toArray, List.getElem?_cons_succ, List.getElem?_cons_zero] at g0 g1 g2
    cases r1 with
    | none =>
      dsimp only [Option.getD_none, Option.isSome_none]
      go_wp2_with fail
      go_ret2
      exact ⟨rfl, hB3⟩
    | some b =>
      dsimp only [Option.getD_some, Option.isSome_some]
      have HX : Hid (toldK 8 (some a) (some b) = some (truth (a == b))) := by show _ = _; simp [toldK]
      go_wp2_with (go_at_call 84; refine (rone_any _ _).mono ?_; rintro e w' ⟨rfl, rfl⟩)
      go_ret2
      exact ⟨by rw [HX.out]; rfl, hB3⟩
set_option maxHeartbeats 2000000 in
theorem rtold_and (HL : Hid (LvR w (.agg #[.bool vl, .int .i64 vn, .slice vad vk vcap]) L)) (H0 : Hid (SubR w 0 ad (.agg #[.bool vl, .int .i64 vn, .slice vad vk vcap]) r0)) (H1 : Hid (SubR w 1 ad (.agg #[.bool vl, .int .i64 vn, .slice vad vk vcap]) r1)) (hsn : 1 < sn) :
    Calls Tryz.prog 67 #[.agg #[.int .i64 10, .int .i64 n, .slice ad sn scap], .agg #[.bool vl, .int .i64 vn, .slice vad vk vcap]] w (TldR (toldK 10 r0 r1) w) := by
  obtain ⟨bl, off, k0, n0, t0, ad0, cap0, rfl, hbl, c00, c01, c02, hc0⟩ := H0.out
  have hc0 := Lib.hid hc0
  simp only [Nat.zero_mul, Nat.add_zero] at c00 c01 c02
  obtain ⟨bl1, off1, k1, n1, t1, ad1, cap1, e1, hbl1, c10, c11, c12, hc1⟩ := H1.out
  simp only [Option.some.injEq, Addr.mk.injEq, and_true] at e1
  obtain ⟨rfl, rfl⟩ := e1
  have hc1 := Lib.hid hc1
  simp only [Nat.one_mul] at c10 c11 c12
  have p0 : (0 : Int) < (sn : Int) := by omega
  have q0 : 0 < sn := by omega
  have p1 : (1 : Int) < (sn : Int) := by omega
  have q1 : 1 < sn := by omega
  go_enter Tryz.func67, Tryz.ntmps67
  go_wp2_with fail
  refine (HL.out _ (by repeat (first | with_reducible assumption | with_reducible exact Below.refl _ _ | with_reducible apply Below.drew | (with_reducible refine Below.alloc ?_ (by first | omega | (simp only [zA, zS, zD, zN]; omega) | (dsimp only; omega) | (simp only [zA, zS, zD, zN]; dsimp only; omega)) _) | (with_reducible refine Below.setCell ?_ (by first | omega | (simp only [zA, zS, zD, zN]; omega) | (dsimp only; omega) | (simp only [zA, zS, zD, zN]; dsimp only; omega)) _) | (with_reducible apply below_drewN)))).mono ?_
  rintro e W1 ⟨⟨lv, rfl, hlv⟩, hb⟩
  have x0 : Blk W1 w.heap.size #[.int .i64 10, .int .i64 n, .slice (some ⟨bl, off, none⟩) sn scap] 27 := ((Blk.new w #[.int .i64 10, .int .i64 n, .slice (some ⟨bl, off, none⟩) sn scap] 27).alloc _).ext hb
  have x1 : Blk W1 (w.heap.size + 1) #[.bool vl, .int .i64 vn, .slice vad vk vcap] 45 := (show Blk _ _ _ _ by simpa using Blk.new (w.alloc (.cells #[.int .i64 10, .int .i64 n, .slice (some ⟨bl, off, none⟩) sn scap] 27)) #[.bool vl, .int .i64 vn, .slice vad vk vcap] 45).ext hb
  have hB1 : Below w.heap.size w W1 := Below.trans (by repeat (first | with_reducible assumption | with_reducible exact Below.refl _ _ | with_reducible apply Below.drew | (with_reducible refine Below.alloc ?_ (by first | omega | (simp only [zA, zS, zD, zN]; omega) | (dsimp only; omega) | (simp only [zA, zS, zD, zN]; dsimp only; omega)) _) | (with_reducible refine Below.setCell ?_ (by first | omega | (simp only [zA, zS, zD, zN]; omega) | (dsimp only; omega) | (simp only [zA, zS, zD, zN]; dsimp only; omega)) _) | (with_reducible apply below_drewN))) (hb.mono (by first | omega | (simp only [zA, zS, zD, zN]; omega) | (dsimp only; omega) | (simp only [zA, zS, zD, zN]; dsimp only; omega)))
  clear hb
  have f0 := x0.cell 0
  have f1 := x0.cell 1
  have f2 := x0.cell 2
  simp only [List.getElem?_toArray, List.getElem?_cons_succ, List.getElem?_cons_zero] at f0 f1 f2
  have g0 := x1.cell 0
  have g1 := x1.cell 1
  have g2 := x1.cell 2
  simp only [List.getElem?_toArray, List.getElem?_cons_succ, List.getElem?_cons_zero] at g0 g1 g2
  have d0 := (hB1.cell (p := ⟨bl, _, none⟩) hbl).trans c00
  have d1 := (hB1.cell (p := ⟨bl, _, none⟩) hbl).trans c01
  have d2 := (hB1.cell (p := ⟨bl, _, none⟩) hbl).trans c02
  go_wp2_with fail
  refine region_mov (S := fun w' => w'.cell? ⟨w.heap.size, 0, none⟩ = some (.int .i64 10) ∧ w'.cell? ⟨w.heap.size, 1, none⟩ = some (.int .i64 n) ∧ w'.cell? ⟨w.heap.size, 2, none⟩ = some (.slice (some ⟨bl, off, none⟩) sn scap) ∧ w'.cell? ⟨w.heap.size + 1, 0, none⟩ = some (.bool vl) ∧ w'.cell? ⟨w.heap.size + 1, 1, none⟩ = some (.int .i64 vn) ∧ w'.cell? ⟨w.heap.size + 1, 2, none⟩ = some (.slice vad vk vcap) ∧ w'.cell? ⟨bl, off, none⟩ = some (.int .i64 k0) ∧ w'.cell? ⟨bl, off + 1, none⟩ = some (.int .i64 n0) ∧ w'.cell? ⟨bl, off + 2, none⟩ = some (.slice ad0 t0 cap0)) (n := 10) (ms := [(true, 0), (true, 1), (true, 2), (true, 3), (true, 4), (false, 5), (true, 6), (true, 7), (true, 8), (false, 9), (false, 10)]) (hm := by kernel_rfl) (hB := by kernel_rfl) (hQ := fun c a d v w h => by cases d <;> exact h) ?_
  have HS0 : Hid ((fun w' => w'.cell? ⟨w.heap.size, 0, none⟩ = some (.int .i64 10) ∧ w'.cell? ⟨w.heap.size, 1, none⟩ = some (.int .i64 n) ∧ w'.cell? ⟨w.heap.size, 2, none⟩ = some (.slice (some ⟨bl, off, none⟩) sn scap) ∧ w'.cell? ⟨w.heap.size + 1, 0, none⟩ = some (.bool vl) ∧ w'.cell? ⟨w.heap.size + 1, 1, none⟩ = some (.int .i64 vn) ∧ w'.cell? ⟨w.heap.size + 1, 2, none⟩ = some (.slice vad vk vcap) ∧ w'.cell? ⟨bl, off, none⟩ = some (.int .i64 k0) ∧ w'.cell? ⟨bl, off + 1, none⟩ = some (.int .i64 n0) ∧ w'.cell? ⟨bl, off + 2, none⟩ = some (.slice ad0 t0 cap0)) W1.drew) := ⟨f0, f1, f2, g0, g1, g2, d0, d1, d2⟩
  iterate 5
    rw [mov_take]
    simp only [List.getElem?_toArray, List.getElem?_cons_succ, List.getElem?_cons_zero]
    refine ⟨?_, .inl ⟨by rfl, ?_⟩, HS0.out, ?_⟩
    rotate_left
    · rintro w' ⟨s0, s1, s2, s3, s4, s5, s6, s7, s8⟩
      go_simp
      rfl
    simp only [Act.put, List.setIfInBounds_toArray, List.set_cons_zero, List.set_cons_succ]
  have hBd : Below w.heap.size w W1.drew := hB1.drew
  have z0 : Blk W1.drew w.heap.size #[.int .i64 10, .int .i64 n, .slice (some ⟨bl, off, none⟩) sn scap] 27 := x0
  have z1 : Blk W1.drew (w.heap.size + 1) #[.bool vl, .int .i64 vn, .slice vad vk vcap] 45 := x1
  clear HS0 hB1 x0 x1 f0 f1 f2 g0 g1 g2 d0 d1 d2
  generalize W1.drew = WD at *
  have HS : Hid (∀ W', Below WD.heap.size WD W' → (fun w' => w'.cell? ⟨w.heap.size, 0, none⟩ = some (.int .i64 10) ∧ w'.cell? ⟨w.heap.size, 1, none⟩ = some (.int .i64 n) ∧ w'.cell? ⟨w.heap.size, 2, none⟩ = some (.slice (some ⟨bl, off, none⟩) sn scap) ∧ w'.cell? ⟨w.heap.size + 1, 0, none⟩ = some (.bool vl) ∧ w'.cell? ⟨w.heap.size + 1, 1, none⟩ = some (.int .i64 vn) ∧ w'.cell? ⟨w.heap.size + 1, 2, none⟩ = some (.slice vad vk vcap) ∧ w'.cell? ⟨bl, off, none⟩ = some (.int .i64 k0) ∧ w'.cell? ⟨bl, off + 1, none⟩ = some (.int .i64 n0) ∧ w'.cell? ⟨bl, off + 2, none⟩ = some (.slice ad0 t0 cap0)) W') := fun W' h => by
    have zz := hBd.size
    exact ⟨(z0.ext h).cell 0, (z0.ext h).cell 1, (z0.ext h).cell 2, (z1.ext h).cell 0, (z1.ext h).cell 1, (z1.ext h).cell 2, ((hBd.trans (h.mono hBd.size)).cell (p := ⟨bl, _, none⟩) hbl).trans c00, ((hBd.trans (h.mono hBd.size)).cell (p := ⟨bl, _, none⟩) hbl).trans c01, ((hBd.trans (h.mono hBd.size)).cell (p := ⟨bl, _, none⟩) hbl).trans c02⟩
  rw [mov_step]
  simp only [List.getElem?_toArray, List.getElem?_cons_succ, List.getElem?_cons_zero]
  go_wp2_with fail
  refine (hc0.out WD hBd).mono ?_
  rintro e W2 ⟨rfl, hb⟩
  have hS2 := HS.out W2 hb
  have HS2 := Lib.hid hS2
  clear hS2
  go_wp2_with fail
  refine And.intro (fun _ => HS2.out) ?_
  iterate 3
    rw [mov_take]
    simp only [List.getElem?_toArray, List.getElem?_cons_succ, List.getElem?_cons_zero]
    refine ⟨?_, .inl ⟨by rfl, ?_⟩, HS2.out, ?_⟩
    rotate_left
    · rintro w' _
      go_simp
      rfl
    simp only [Act.put, List.setIfInBounds_toArray, List.set_cons_zero, List.set_cons_succ]
  rw [mov_step]
  simp only [List.getElem?_toArray, List.getElem?_cons_succ, List.getElem?_cons_zero]
  go_wp2_with fail
  refine And.intro (fun _ => HS2.out) ?_
  rw [mov_step]
  simp only [List.getElem?_toArray, List.getElem?_cons_succ, List.getElem?_cons_zero]
  go_wp2_with fail
  refine And.intro (fun h => absurd h (by omega)) ?_
  rw [wpMov]
  have x0 := z0.ext hb
  have x1 := z1.ext hb
  have hB2 : Below w.heap.size w W2 := hBd.trans (hb.mono hBd.size)
  clear HS HS2 hBd z0 z1 hb
  have f0 := x0.cell 0
  have f1 := x0.cell 1
  have f2 := x0.cell 2
  simp only [List.getElem?_toArray, List.getElem?_cons_succ, List.getElem?_cons_zero] at f0 f1 f2
  have g0 := x1.cell 0
  have g1 := x1.cell 1
  have g2 := x1.cell 2
  simp only [List.getElem?_toArray, List.getElem?_cons_succ, List.getElem?_cons_zero] at g0 g1 g2
  cases r0 with
  | none =>
    dsimp only [Option.getD_none, Option.isSome_none]
    go_wp2_with (go_at_call 84; refine (rone_any _ _).mono ?_; rintro e w' ⟨rfl, rfl⟩)
    go_ret2
    exact ⟨rfl, hB2⟩
  | some a =>
    dsimp only [Option.getD_some, Option.isSome_some]
    by_cases ha : a = 0
    · subst ha
      go_wp2_with fail
      go_ret2
      exact ⟨rfl, hB2⟩
    · have qa : (a == 0) = false := by simpa using ha
      have HX : Hid (toldK 10 (some a) r1 = r1) := by show _ = _; cases r1 <;> simp [toldK, ha]
      clear ha
      clear f0 f1 f2 g0 g1 g2
      have f0 := x0.cell 0
      have f1 := x0.cell 1
      have f2 := x0.cell 2
      simp only [List.getElem?_toArray, List.getElem?_cons_succ, List.getElem?_cons_zero] at f0 f1 f2
      have g0 := x1.cell 0
      have g1 := x1.cell 1
      have g2 := x1.cell 2
      simp only [List.getElem?_toArray, List.getElem?_cons_succ, List.getElem?_cons_zero] at g0 g1 g2
      have d0 := (hB2.cell (p := ⟨bl, _, none⟩) hbl).trans c10
      have d1 := (hB2.cell (p := ⟨bl, _, none⟩) hbl).trans c11
      have d2 := (hB2.cell (p := ⟨bl, _, none⟩) hbl).trans c12
      go_wp2_with fail
      refine region_mov (S := fun w' => w'.cell? ⟨w.heap.size, 0, none⟩ = some (.int .i64 10) ∧ w'.cell? ⟨w.heap.size, 1, none⟩ = some (.int .i64 n) ∧ w'.cell? ⟨w.heap.size, 2, none⟩ = some (.slice (some ⟨bl, off, none⟩) sn scap) ∧ w'.cell? ⟨w.heap.size + 1, 0, none⟩ = some (.bool vl) ∧ w'.cell? ⟨w.heap.size + 1, 1, none⟩ = some (.int .i64 vn) ∧ w'.cell? ⟨w.heap.size + 1, 2, none⟩ = some (.slice vad vk vcap) ∧ w'.cell? ⟨bl, off + 3, none⟩ = some (.int .i64 k1) ∧ w'.cell? ⟨bl, off + 3 + 1, none⟩ = some (.int .i64 n1) ∧ w'.cell? ⟨bl, off + 3 + 2, none⟩ = some (.slice ad1 t1 cap1)) (n := 10) (ms := [(true, 0), (true, 1), (true, 2), (true, 3), (true, 4), (false, 5), (true, 6), (true, 7), (true, 8), (false, 9), (false, 10)]) (hm := by kernel_rfl) (hB := by kernel_rfl) (hQ := fun c a d v w h => by cases d <;> exact h) ?_
      have HS0 : Hid ((fun w' => w'.cell? ⟨w.heap.size, 0, none⟩ = some (.int .i64 10) ∧ w'.cell? ⟨w.heap.size, 1, none⟩ = some (.int .i64 n) ∧ w'.cell? ⟨w.heap.size, 2, none⟩ = some (.slice (some ⟨bl, off, none⟩) sn scap) ∧ w'.cell? ⟨w.heap.size + 1, 0, none⟩ = some (.bool vl) ∧ w'.cell? ⟨w.heap.size + 1, 1, none⟩ = some (.int .i64 vn) ∧ w'.cell? ⟨w.heap.size + 1, 2, none⟩ = some (.slice vad vk vcap) ∧ w'.cell? ⟨bl, off + 3, none⟩ = some (.int .i64 k1) ∧ w'.cell? ⟨bl, off + 3 + 1, none⟩ = some (.int .i64 n1) ∧ w'.cell? ⟨bl, off + 3 + 2, none⟩ = some (.slice ad1 t1 cap1)) W2.drew) := ⟨f0, f1, f2, g0, g1, g2, d0, d1, d2⟩
      iterate 5
        rw [mov_take]
        simp only [List.getElem?_toArray, List.getElem?_cons_succ, List.getElem?_cons_zero]
        refine ⟨?_, .inl ⟨by rfl, ?_⟩, HS0.out, ?_⟩
        rotate_left
        · rintro w' ⟨s0, s1, s2, s3, s4, s5, s6, s7, s8⟩
          go_simp
          rfl
        simp only [Act.put, List.setIfInBounds_toArray, List.set_cons_zero, List.set_cons_succ]
      have hBd : Below w.heap.size w W2.drew := hB2.drew
      have z0 : Blk W2.drew w.heap.size #[.int .i64 10, .int .i64 n, .slice (some ⟨bl, off, none⟩) sn scap] 27 := x0
      have z1 : Blk W2.drew (w.heap.size + 1) #[.bool vl, .int .i64 vn, .slice vad vk vcap] 45 := x1
      clear HS0 hB2 x0 x1 f0 f1 f2 g0 g1 g2 d0 d1 d2
      generalize W2.drew = WD at *
      have HS : Hid (∀ W', Below WD.heap.size WD W' → (fun w' => w'.cell? ⟨w.heap.size, 0, none⟩ = some (.int .i64 10) ∧ w'.cell? ⟨w.heap.size, 1, none⟩ = some (.int .i64 n) ∧ w'.cell? ⟨w.heap.size, 2, none⟩ = some (.slice (some ⟨bl, off, none⟩) sn scap) ∧ w'.cell? ⟨w.heap.size + 1, 0, none⟩ = some (.bool vl) ∧ w'.cell? ⟨w.heap.size + 1, 1, none⟩ = some (.int .i64 vn) ∧ w'.cell? ⟨w.heap.size + 1, 2, none⟩ = some (.slice vad vk vcap) ∧ w'.cell? ⟨bl, off + 3, none⟩ = some (.int .i64 k1) ∧ w'.cell? ⟨bl, off + 3 + 1, none⟩ = some (.int .i64 n1) ∧ w'.cell? ⟨bl, off + 3 + 2, none⟩ = some (.slice ad1 t1 cap1)) W') := fun W' h => by
        have zz := hBd.size
        exact ⟨(z0.ext h).cell 0, (z0.ext h).cell 1, (z0.ext h).cell 2, (z1.ext h).cell 0, (z1.ext h).cell 1, (z1.ext h).cell 2, ((hBd.trans (h.mono hBd.size)).cell (p := ⟨bl, _, none⟩) hbl).trans c10, ((hBd.trans (h.mono hBd.size)).cell (p := ⟨bl, _, none⟩) hbl).trans c11, ((hBd.trans (h.mono hBd.size)).cell (p := ⟨bl, _, none⟩) hbl).trans c12⟩
      rw [mov_step]
      simp only [List.getElem?_toArray, List.getElem?_cons_succ, List.getElem?_cons_zero]
      go_wp2_with fail
      refine (hc1.out WD hBd).mono ?_
      rintro e W3 ⟨rfl, hb⟩
      have hS2 := HS.out W3 hb
      have HS2 := Lib.hid hS2
      clear hS2
      go_wp2_with fail
      refine And.intro (fun _ => HS2.out) ?_
      iterate 3
        rw [mov_take]
        simp only [List.getElem?_toArray, List.getElem?_cons_succ, List.getElem?_cons_zero]
        refine ⟨?_, .inl ⟨by rfl, ?_⟩, HS2.out, ?_⟩
        rotate_left
        · rintro w' _
          go_simp
          rfl
        simp only [Act.put, List.setIfInBounds_toArray, List.set_cons_zero, List.set_cons_succ]
      rw [mov_step]
      simp only [List.getElem?_toArray, List.getElem?_cons_succ, List.getElem?_cons_zero]
      go_wp2_with fail
      refine And.intro (fun _ => HS2.out) ?_
      rw [mov_step]
      simp only [List.getElem?_toArray, List.getElem?_cons_succ, List.getElem?_cons_zero]
      go_wp2_with fail
      refine And.intro (fun h => absurd h (by omega)) ?_
      rw [wpMov]
      have x0 := z0.ext hb
      have x1 := z1.ext hb
      have hB3 : Below w.heap.size w W3 := hBd.trans (hb.mono hBd.size)
      clear HS HS2 hBd z0 z1 hb
      have f0 := x0.cell 0
      have f1 := x0.cell 1
      have f2 := x0.cell 2
      simp only [List.getElem?_toArray, List.getElem?_cons_succ, List.getElem?_cons_zero] at f0 f1 f2
      have g0 := x1.cell 0
      have g1 := x1.cell 1
      have g2 := x1.cell 2
      simp only [List.getElem?_toArray, List.getElem?_cons_succ, List.getElem?_cons_zero] at g0 g1 g2
      cases r1 with
      | none =>
        dsimp only [Option.getD_none, Option.isSome_none]
        go_wp2_with fail
        go_ret2
        exact ⟨by rw [HX.out]; rfl, hB3⟩
      | some b =>
        dsimp only [Option.getD_some, Option.isSome_some]
        go_wp2_with fail
        go_ret2
        exact ⟨by rw [HX.out]; rfl, hB3⟩
set_option maxHeartbeats 2000000 in
theorem rtold_or (HL : Hid (LvR w (.agg #[.bool vl, .int .i64 vn, .slice vad vk vcap]) L)) (H0 : Hid (SubR w 0 ad (.agg #[.bool vl, .int .i64 vn, .slice vad vk vcap]) r0)) (H1 : Hid (SubR w 1 ad (.agg #[.bool vl, .int .i64 vn, .slice vad vk vcap]) r1)) (hsn : 1 < sn) :
    Calls Tryz.prog 67 #[.agg #[.int .i64 11, .int .i64 n, .slice ad sn scap], .agg #[.bool vl, .int .i64 vn, .slice vad vk vcap]] w (TldR (toldK 11 r0 r1) w) := by
  obtain ⟨bl, off, k0, n0, t0, ad0, cap0, rfl, hbl, c00, c01, c02, hc0⟩ := H0.out
  have hc0 := Lib.hid hc0
  simp only [Nat.zero_mul, Nat.add_zero] at c00 c01 c02
  obtain ⟨bl1, off1, k1, n1, t1, ad1, cap1, e1, hbl1, c10, c11, c12, hc1⟩ := H1.out
  simp only [Option.some.injEq, Addr.mk.injEq, and_true] at e1
  obtain ⟨rfl, rfl⟩ := e1
  have hc1 := Lib.hid hc1
  simp only [Nat.one_mul] at c10 c11 c12
  have p0 : (0 : Int) < (sn : Int) := by omega
  have q0 : 0 < sn := by omega
  have p1 : (1 : Int) < (sn : Int) := by omega
  have q1 : 1 < sn := by omega
  go_enter Tryz.func67, Tryz.ntmps67
  go_wp2_with fail
  refine (HL.out _ (by repeat (first | with_reducible assumption | with_reducible exact Below.refl _ _ | with_reducible apply Below.drew | (with_reducible refine Below.alloc ?_ (by first | omega | (simp only [zA, zS, zD, zN]; omega) | (dsimp only; omega) | (simp only [zA, zS, zD, zN]; dsimp only; omega)) _) | (with_reducible refine Below.setCell ?_ (by first | omega | (simp only [zA, zS, zD, zN]; omega) | (dsimp only; omega) | (simp only [zA, zS, zD, zN]; dsimp only; omega)) _) | (with_reducible apply below_drewN)))).mono ?_
  rintro e W1 ⟨⟨lv, rfl, hlv⟩, hb⟩
  have x0 : Blk W1 w.heap.size #[.int .i64 11, .int .i64 n, .slice (some ⟨bl, off, none⟩) sn scap] 27 := ((Blk.new w #[.int .i64 11, .int .i64 n, .slice (some ⟨bl, off, none⟩) sn scap] 27).alloc _).ext hb
  have x1 : Blk W1 (w.heap.size + 1) #[.bool vl, .int .i64 vn, .slice vad vk vcap] 45 := (show Blk _ _ _ _ by simpa using Blk.new (w.alloc (.cells #[.int .i64 11, .int .i64 n, .slice (some ⟨bl, off, none⟩) sn scap] 27)) #[.bool vl, .int .i64 vn, .slice vad vk vcap] 45).ext hb
  have hB1 : Below w.heap.size w W1 := Below.trans (by repeat (first | with_reducible assumption | with_reducible exact Below.refl _ _ | with_reducible apply Below.drew | (with_reducible refine Below.alloc ?_ (by first | omega | (simp only [zA, zS, zD, zN]; omega) | (dsimp only; omega) | (simp only [zA, zS, zD, zN]; dsimp only; omega)) _) | (with_reducible refine Below.setCell ?_ (by first | omega | (simp only [zA, zS, zD, zN]; omega) | (dsimp only; omega) | (simp only [zA, zS, zD, zN]; dsimp only; omega)) _) | (with_reducible apply below_drewN))) (hb.mono (by first | omega | (simp only [zA, zS, zD, zN]; omega) | (dsimp only; omega) | (simp only [zA, zS, zD, zN]; dsimp only; omega)))
  clear hb
  have f0 := x0.cell 0
  have f1 := x0.cell 1
  have f2 := x0.cell 2
  simp only [List.getElem?_toArray, List.getElem?_cons_succ, List.getElem?_cons_zero] at f0 f1 f2
  have g0 := x1.cell 0
  have g1 := x1.cell 1
  have g2 := x1.cell 2
  simp only [List.getElem?_toArray, List.getElem?_cons_succ, List.getElem?_cons_zero] at g0 g1 g2
  have d0 := (hB1.cell (p := ⟨bl, _, none⟩) hbl).trans c00
  have d1 := (hB1.cell (p := ⟨bl, _, none⟩) hbl).trans c01
  have d2 := (hB1.cell (p := ⟨bl, _, none⟩) hbl).trans c02
  go_wp2_with fail
  refine region_mov (S := fun w' => w'.cell? ⟨w.heap.size, 0, none⟩ = some (.int .i64 11) ∧ w'.cell? ⟨w.heap.size, 1, none⟩ = some (.int .i64 n) ∧ w'.cell? ⟨w.heap.size, 2, none⟩ = some (.slice (some ⟨bl, off, none⟩) sn scap) ∧ w'.cell? ⟨w.heap.size + 1, 0, none⟩ = some (.bool vl) ∧ w'.cell? ⟨w.heap.size + 1, 1, none⟩ = some (.int .i64 vn) ∧ w'.cell? ⟨w.heap.size + 1, 2, none⟩ = some (.slice vad vk vcap) ∧ w'.cell? ⟨bl, off, none⟩ = some (.int .i64 k0) ∧ w'.cell? ⟨bl, off + 1, none⟩ = some (.int .i64 n0) ∧ w'.cell? ⟨bl, off + 2, none⟩ = some (.slice ad0 t0 cap0)) (n := 10) (ms := [(true, 0), (true, 1), (true, 2), (true, 3), (true, 4), (false, 5), (true, 6), (true, 7), (true, 8), (false, 9), (false, 10)]) (hm := by kernel_rfl) (hB := by kernel_rfl) (hQ := fun c a d v w h => by cases d <;> exact h) ?_
  have HS0 : Hid ((fun w' => w'.cell? ⟨w.heap.size, 0, none⟩ = some (.int .i64 11) ∧ w'.cell? ⟨w.heap.size, 1, none⟩ = some (.int .i64 n) ∧ w'.cell? ⟨w.heap.size, 2, none⟩ = some (.slice (some ⟨bl, off, none⟩) sn scap) ∧ w'.cell? ⟨w.heap.size + 1, 0, none⟩ = some (.bool vl) ∧ w'.cell? ⟨w.heap.size + 1, 1, none⟩ = some (.int .i64 vn) ∧ w'.cell? ⟨w.heap.size + 1, 2, none⟩ = some (.slice vad vk vcap) ∧ w'.cell? ⟨bl, off, none⟩ = some (.int .i64 k0) ∧ w'.cell? ⟨bl, off + 1, none⟩ = some (.int .i64 n0) ∧ w'.cell? ⟨bl, off + 2, none⟩ = some (.slice ad0 t0 cap0)) W1.drew) := ⟨f0, f1, f2, g0, g1, g2, d0, d1, d2⟩
  iterate 5
    rw [mov_take]
    simp only [List.getElem?_toArray, List.getElem?_cons_succ, List.getElem?_cons_zero]
    refine ⟨?_, .inl ⟨by rfl, ?_⟩, HS0.out, ?_⟩
    rotate_left
    · rintro w' ⟨s0, s1, s2, s3, s4, s5, s6, s7, s8⟩
      go_simp
      rfl
    simp only [Act.put, List.setIfInBounds_toArray, List.set_cons_zero, List.set_cons_succ]
  have hBd : Below w.heap.size w W1.drew := hB1.drew
  have z0 : Blk W1.drew w.heap.size #[.int .i64 11, .int .i64 n, .slice (some ⟨bl, off, none⟩) sn scap] 27 := x0
  have z1 : Blk W1.drew (w.heap.size + 1) #[.bool vl, .int .i64 vn, .slice vad vk vcap] 45 := x1
  clear HS0 hB1 x0 x1 f0 f1 f2 g0 g1 g2 d0 d1 d2
  generalize W1.drew = WD at *
  have HS : Hid (∀ W', Below WD.heap.size WD W' → (fun w' => w'.cell? ⟨w.heap.size, 0, none⟩ = some (.int .i64 11) ∧ w'.cell? ⟨w.heap.size, 1, none⟩ = some (.int .i64 n) ∧ w'.cell? ⟨w.heap.size, 2, none⟩ = some (.slice (some ⟨bl, off, none⟩) sn scap) ∧ w'.cell? ⟨w.heap.size + 1, 0, none⟩ = some (.bool vl) ∧ w'.cell? ⟨w.heap.size + 1, 1, none⟩ = some (.int .i64 vn) ∧ w'.cell? ⟨w.heap.size + 1, 2, none⟩ = some (.slice vad vk vcap) ∧ w'.cell? ⟨bl, off, none⟩ = some (.int .i64 k0) ∧ w'.cell? ⟨bl, off + 1, none⟩ = some (.int .i64 n0) ∧ w'.cell? ⟨bl, off + 2, none⟩ = some (.slice ad0 t0 cap0)) W') := fun W' h => by
    have zz := hBd.size
    exact ⟨(z0.ext h).cell 0, (z0.ext h).cell 1, (z0.ext h).cell 2, (z1.ext h).cell 0, (z1.ext h).cell 1, (z1.ext h).cell 2, ((hBd.trans (h.mono hBd.size)).cell (p := ⟨bl, _, none⟩) hbl).trans c00, ((hBd.trans (h.mono hBd.size)).cell (p := ⟨bl, _, none⟩) hbl).trans c01, ((hBd.trans (h.mono hBd.size)).cell (p := ⟨bl, _, none⟩) hbl).trans c02⟩
  rw [mov_step]
  simp only [List.getElem?_toArray, List.getElem?_cons_succ, List.getElem?_cons_zero]
  go_wp2_with fail
  refine (hc0.out WD hBd).mono ?_
  rintro e W2 ⟨rfl, hb⟩
  have hS2 := HS.out W2 hb
  have HS2 := Lib.hid hS2
  clear hS2
  go_wp2_with fail
  refine And.intro (fun _ => HS2.out) ?_
  iterate 3
    rw [mov_take]
    simp only [List.getElem?_toArray, List.getElem?_cons_succ, List.getElem?_cons_zero]
    refine ⟨?_, .inl ⟨by rfl, ?_⟩, HS2.out, ?_⟩
    rotate_left
    · rintro w' _
      go_simp
      rfl
    simp only [Act.put, List.setIfInBounds_toArray, List.set_cons_zero, List.set_cons_succ]
  rw [mov_step]
  simp only [List.getElem?_toArray, List.getElem?_cons_succ, List.getElem?_cons_zero]
  go_wp2_with fail
  refine And.intro (fun _ => HS2.out) ?_
  rw [mov_step]
  simp only [List.getElem?_toArray, List.getElem?_cons_succ, List.getElem?_cons_zero]
  go_wp2_with fail
  refine And.intro (fun h => absurd h (by omega)) ?_
  rw [wpMov]
  have x0 := z0.ext hb
  have x1 := z1.ext hb
  have hB2 : Below w.heap.size w W2 := hBd.trans (hb.mono hBd.size)
  clear HS HS2 hBd z0 z1 hb
  have f0 := x0.cell 0
  have f1 := x0.cell 1
  have f2 := x0.cell 2
  simp only [List.getElem?_toArray, List.getElem?_cons_succ, List.getElem?_cons_zero] at f0 f1 f2
  have g0 := x1.cell 0
  have g1 := x1.cell 1
  have g2 := x1.cell 2
  simp only [List.getElem?_toArray, List.getElem?_cons_succ, List.getElem?_cons_zero] at g0 g1 g2
  cases r0 with
  | none =>
    dsimp only [Option.getD_none, Option.isSome_none]
    go_wp2_with (go_at_call 84; refine (rone_any _ _).mono ?_; rintro e w' ⟨rfl, rfl⟩)
    go_ret2
    exact ⟨rfl, hB2⟩
  | some a =>
    dsimp only [Option.getD_some, Option.isSome_some]
    by_cases ha : a ≠ 0
    · have qa : (a == 0) = false := by simpa using ha
      have HX : Hid (toldK 11 (some a) r1 = some a) := by show _ = _; simp [toldK, ha]
      go_wp2_with fail
      go_ret2
      exact ⟨by rw [HX.out]; rfl, hB2⟩
    · have ha : a = 0 := by simpa using ha
      subst ha
      have HX : Hid (toldK 11 (some 0) r1 = r1) := by show _ = _; cases r1 <;> simp [toldK]
      clear f0 f1 f2 g0 g1 g2
      have f0 := x0.cell 0
      have f1 := x0.cell 1
      have f2 := x0.cell 2
      simp only [List.getElem?_toArray, List.getElem?_cons_succ, List.getElem?_cons_zero] at f0 f1 f2
      have g0 := x1.cell 0
      have g1 := x1.cell 1
      have g2 := x1.cell 2
      simp only [List.getElem?_toArray, List.getElem?_cons_succ, List.getElem?_cons_zero] at g0 g1 g2
      have d0 := (hB2.cell (p := ⟨bl, _, none⟩) hbl).trans c10
      have d1 := (hB2.cell (p := ⟨bl, _, none⟩) hbl).trans c11
      have d2 := (hB2.cell (p := ⟨bl, _, none⟩) hbl).trans c12
      go_wp2_with fail
      refine region_mov (S := fun w' => w'.cell? ⟨w.heap.size, 0, none⟩ = some (.int .i64 11) ∧ w'.cell? ⟨w.heap.size, 1, none⟩ = some (.int .i64 n) ∧ w'.cell? ⟨w.heap.size, 2, none⟩ = some (.slice (some ⟨bl, off, none⟩) sn scap) ∧ w'.cell? ⟨w.heap.size + 1, 0, none⟩ = some (.bool vl) ∧ w'.cell? ⟨w.heap.size + 1, 1, none⟩ = some (.int .i64 vn) ∧ w'.cell? ⟨w.heap.size + 1, 2, none⟩ = some (.slice vad vk vcap) ∧ w'.cell? ⟨bl, off + 3, none⟩ = some (.int .i64 k1) ∧ w'.cell? ⟨bl, off + 3 + 1, none⟩ = some (.int .i64 n1) ∧ w'.cell? ⟨bl, off + 3 + 2, none⟩ = some (.slice ad1 t1 cap1)) (n := 10) (ms := [(true, 0), (true, 1), (true, 2), (true, 3), (true, 4), (false, 5), (true, 6), (true, 7), (true, 8), (false, 9), (false, 10)]) (hm := by kernel_rfl) (hB := by kernel_rfl) (hQ := fun c a d v w h => by cases d <;> exact h) ?_
      have HS0 : Hid ((fun w' => w'.cell? ⟨w.heap.size, 0, none⟩ = some (.int .i64 11) ∧ w'.cell? ⟨w.heap.size, 1, none⟩ = some (.int .i64 n) ∧ w'.cell? ⟨w.heap.size, 2, none⟩ = some (.slice (some ⟨bl, off, none⟩) sn scap) ∧ w'.cell? ⟨w.heap.size + 1, 0, none⟩ = some (.bool vl) ∧ w'.cell? ⟨w.heap.size + 1, 1, none⟩ = some (.int .i64 vn) ∧ w'.cell? ⟨w.heap.size + 1, 2, none⟩ = some (.slice vad vk vcap) ∧ w'.cell? ⟨bl, off + 3, none⟩ = some (.int .i64 k1) ∧ w'.cell? ⟨bl, off + 3 + 1, none⟩ = some (.int .i64 n1) ∧ w'.cell? ⟨bl, off + 3 + 2, none⟩ = some (.slice ad1 t1 cap1)) W2.drew) := ⟨f0, f1, f2, g0, g1, g2, d0, d1, d2⟩
      iterate 5
        rw [mov_take]
        simp only [List.getElem?_toArray, List.getElem?_cons_succ, List.getElem?_cons_zero]
        refine ⟨?_, .inl ⟨by rfl, ?_⟩, HS0.out, ?_⟩
        rotate_left
        · rintro w' ⟨s0, s1, s2, s3, s4, s5, s6, s7, s8⟩
          go_simp
          rfl
        simp only [Act.put, List.setIfInBounds_toArray, List.set_cons_zero, List.set_cons_succ]
      have hBd : Below w.heap.size w W2.drew := hB2.drew
      have z0 : Blk W2.drew w.heap.size #[.int .i64 11, .int .i64 n, .slice (some ⟨bl, off, none⟩) sn scap] 27 := x0
      have z1 : Blk W2.drew (w.heap.size + 1) #[.bool vl, .int .i64 vn, .slice vad vk vcap] 45 := x1
      clear HS0 hB2 x0 x1 f0 f1 f2 g0 g1 g2 d0 d1 d2
      generalize W2.drew = WD at *
      have HS : Hid (∀ W', Below WD.heap.size WD W' → (fun w' => w'.cell? ⟨w.heap.size, 0, none⟩ = some (.int .i64 11) ∧ w'.cell? ⟨w.heap.size, 1, none⟩ = some (.int .i64 n) ∧ w'.cell? ⟨w.heap.size, 2, none⟩ = some (.slice (some ⟨bl, off, none⟩) sn scap) ∧ w'.cell? ⟨w.heap.size + 1, 0, none⟩ = some (.bool vl) ∧ w'.cell? ⟨w.heap.size + 1, 1, none⟩ = some (.int .i64 vn) ∧ w'.cell? ⟨w.heap.size + 1, 2, none⟩ = some (.slice vad vk vcap) ∧ w'.cell? ⟨bl, off + 3, none⟩ = some (.int .i64 k1) ∧ w'.cell? ⟨bl, off + 3 + 1, none⟩ = some (.int .i64 n1) ∧ w'.cell? ⟨bl, off + 3 + 2, none⟩ = some (.slice ad1 t1 cap1)) W') := fun W' h => by
        have zz := hBd.size
        exact ⟨(z0.ext h).cell 0, (z0.ext h).cell 1, (z0.ext h).cell 2, (z1.ext h).cell 0, (z1.ext h).cell 1, (z1.ext h).cell 2, ((hBd.trans (h.mono hBd.size)).cell (p := ⟨bl, _, none⟩) hbl).trans c10, ((hBd.trans (h.mono hBd.size)).cell (p := ⟨bl, _, none⟩) hbl).trans c11, ((hBd.trans (h.mono hBd.size)).cell (p := ⟨bl, _, none⟩) hbl).trans c12⟩
      rw [mov_step]
      simp only [List.getElem?_toArray, List.getElem?_cons_succ, List.getElem?_cons_zero]
      go_wp2_with fail
      refine (hc1.out WD hBd).mono ?_
      rintro e W3 ⟨rfl, hb⟩
      have hS2 := HS.out W3 hb
      have HS2 := Lib.hid hS2
      clear hS2
      go_wp2_with fail
      refine And.intro (fun _ => HS2.out) ?_
      iterate 3
        rw [mov_take]
        simp only [List.getElem?_toArray, List.getElem?_cons_succ, List.getElem?_cons_zero]
        refine ⟨?_, .inl ⟨by rfl, ?_⟩, HS2.out, ?_⟩
        rotate_left
        · rintro w' _
          go_simp
          rfl
        simp only [Act.put, List.setIfInBounds_toArray, List.set_cons_zero, List.set_cons_succ]
      rw [mov_step]
      simp only [List.getElem?_toArray, List.getElem?_cons_succ, List.getElem?_cons_zero]
      go_wp2_with fail
      refine And.intro (fun _ => HS2.out) ?_
      rw [mov_step]
      simp only [List.getElem?_toArray, List.getElem?_cons_succ, List.getElem?_cons_zero]
      go_wp2_with fail
      refine And.intro (fun h => absurd h (by omega)) ?_
      rw [wpMov]
      have x0 := z0.ext hb
      have x1 := z1.ext hb
      have hB3 : Below w.heap.size w W3 := hBd.trans (hb.mono hBd.size)
      clear HS HS2 hBd z0 z1 hb
      have f0 := x0.cell 0
      have f1 := x0.cell 1
      have f2 := x0.cell 2
      simp only [List.getElem?_toArray, List.getElem?_cons_succ, List.getElem?_cons_zero] at f0 f1 f2
      have g0 := x1.cell 0
      have g1 := x1.cell 1
      have g2 := x1.cell 2
      simp only [List.getElem?_toArray, List.getElem?_cons_succ, List.getElem?_cons_zero] at g0 g1 g2
      cases r1 with
      | none =>
        dsimp only [Option.getD_none, Option.isSome_none]
        go_wp2_with fail
        go_ret2
        exact ⟨by rw [HX.out]; rfl, hB3⟩
      | some b =>
        dsimp only [Option.getD_some, Option.isSome_some]
        go_wp2_with fail
        go_ret2
        exact ⟨by rw [HX.out]; rfl, hB3⟩
end
theorem rsub_at {w : World} {s : List ET} {ad : Option Addr} {t : VT} {vv : Value} (hs : ExprsAt w ad s) (hv : ValAt w vv t) (i : Nat) (h : i < s.length)
    (IH : ∀ x ∈ s, ∀ (xv vv : Value) (w : World), ExprAt w xv x → ValAt w vv t → Calls Tryz.prog 67 #[xv, vv] w (TldR (ET.told x t) w)) : Hid (SubR w i ad vv (ET.toldI s i t)) := by
  obtain ⟨bl, off, e, hlt, hc⟩ := hs.at' (by omega)
  obtain ⟨k2, n2, t2, ad2, cap2, c0, c1, c2, hg⟩ := hc i h
  refine ⟨bl, off, k2, n2, t2, ad2, cap2, e, hlt, c0, c1, c2, fun W hW => ?_⟩
  rw [ET.toldI_get s i h t]
  exact IH s[i] (List.getElem_mem h) _ _ W (hg.ext hW) (hv.ext hW)
set_option maxHeartbeats 1000000 in
theorem rtold_any (x : ET) : ∀ (t : VT) (xv vv : Value) (w : World), ET.eachErr x = 0 → VT.chk t 0 = 0 → (VT.leaves t).length ≤ 17592186044416 → ExprAt w xv x → ValAt w vv t → Calls Tryz.prog 67 #[xv, vv] w (TldR (ET.told x t) w) := by
  induction x using ET.ind with
  | h k n s ih =>
    intro t xv vv w hx hc hlv hxv hvv
    obtain ⟨h1, h2, h3, hkids⟩ := ET.ok_form hx
    have hL : VT.leaves t = VT.nums t := VT.leaves_nums t 0 hc
    have hfit := VT.leaves_fit t hvv.fit
    have HL : Hid (LvR w vv (VT.nums t)) := by
      rw [← hL]
      exact fun W hW => rleaves_any t vv W hlv (hvv.ext hW)
    rw [hL] at hfit
    obtain ⟨k', n', s', ad, cap, hmk, rfl, hk, hn, hl, hm, hs⟩ := hxv.form
    obtain ⟨rfl, rfl, rfl⟩ := ET.mk.inj hmk
    obtain ⟨l, vn, vs, vad, vcap, rfl, rfl, hvn, hvl, hvm, hvs⟩ := hvv.form
    have IH : ∀ x ∈ s, ∀ (xv vv : Value) (w : World), ExprAt w xv x → ValAt w vv (.mk l vn vs) → Calls Tryz.prog 67 #[xv, vv] w (TldR (ET.told x (.mk l vn vs)) w) := fun x hx xv vv w hxv hvv => ih x hx (.mk l vn vs) xv vv w (hkids x hx) hc hlv hxv hvv
    by_cases k5 : 5 ≤ k
    · rw [told_k k n s (.mk l vn vs) k5]
      by_cases k9 : k = 9
      · subst k9
        have hs1 : s.length = 1 := by have : ET.takes 9 = 1 := by decide
                                      omega
        exact rtold_nine HL (rsub_at hs hvv 0 (by omega) IH) (by omega)
      · have hs2 : s.length = 2 := by
          have : ET.takes k = 2 := by unfold ET.takes; rw [if_neg (by omega), if_neg (by omega), if_neg k9]
          omega
        have H0 := rsub_at hs hvv 0 (by omega) IH
        have H1 := rsub_at hs hvv 1 (by omega) IH
        have hsn : 1 < s.length := by omega
        rcases (show k = 5 ∨ k = 6 ∨ k = 7 ∨ k = 8 ∨ k = 10 ∨ k = 11 by omega) with rfl | rfl | rfl | rfl | rfl | rfl
        · exact rtold_add HL H0 H1 hsn
        · exact rtold_rem HL H0 H1 hsn
        · exact rtold_less HL H0 H1 hsn
        · exact rtold_same HL H0 H1 hsn
        · exact rtold_and HL H0 H1 hsn
        · exact rtold_or HL H0 H1 hsn
    · rcases (show k = 1 ∨ k = 2 ∨ k = 3 ∨ k = 4 by omega) with rfl | rfl | rfl | rfl
      · have hr : ET.told (.mk 1 n s) (.mk l vn vs) = some n := by simp [ET.told]
        rw [hr]; exact rtold_lit HL
      · have hr : ET.told (.mk 2 n s) (.mk l vn vs) = some (sumW 0 (VT.nums (.mk l vn vs))) := by simp [ET.told]
        rw [hr]; exact rtold_sum HL hfit
      · have hr : ET.told (.mk 3 n s) (.mk l vn vs) = some (topW (0, false) (VT.nums (.mk l vn vs))).1 := by simp [ET.told]
        rw [hr]; exact rtold_top HL hfit
      · have hr : ET.told (.mk 4 n s) (.mk l vn vs) = some (vs.length : Int) := by simp [ET.told, VT.len]
        rw [hr]; exact rtold_len HL
set_option maxHeartbeats 1000000 in
theorem rbad_any (x : ET) (t : VT) (xv vv : Value) (w : World) (hx : ET.eachErr x = 0) (hc : VT.chk t 0 = 0) (hl : (VT.leaves t).length ≤ 17592186044416) (hxv : ExprAt w xv x) (hvv : ValAt w vv t) :
    Calls Tryz.prog 44 #[xv, vv] w fun e w' => e = .returned (.bool (match ET.told x t with | none => true | some n => n == 0)) ∧ Below w.heap.size w w' := by
  have C1 : Hid (∀ W, Below w.heap.size w W → Calls Tryz.prog 67 #[xv, vv] W (TldR (ET.told x t) W)) := fun W hW => rtold_any x t xv vv W hx hc hl (hxv.ext hW) (hvv.ext hW)
  obtain ⟨k, n, s, ad, cap, rfl⟩ := hxv.shape
  obtain ⟨vl, vn, vk, vad, vcap, rfl⟩ := hvv.shape
  clear hxv hvv hx hc hl
  generalize ET.told x t = r at *
  cases r with
  | none =>
    go_enter Tryz.func44, Tryz.ntmps44
    go_wp2_with fail
    refine (C1.out _ (by repeat (first | with_reducible assumption | with_reducible exact Below.refl _ _ | with_reducible apply Below.drew | (with_reducible refine Below.alloc ?_ (by first | omega | (simp only [zA, zS, zD, zN]; omega) | (dsimp only; omega) | (simp only [zA, zS, zD, zN]; dsimp only; omega)) _) | (with_reducible refine Below.setCell ?_ (by first | omega | (simp only [zA, zS, zD, zN]; omega) | (dsimp only; omega) | (simp only [zA, zS, zD, zN]; dsimp only; omega)) _) | (with_reducible apply below_drewN)))).mono ?_
    rintro e w1 ⟨rfl, hb1⟩
    have hB1 : Below w.heap.size w w1 := Below.trans (by repeat (first | with_reducible assumption | with_reducible exact Below.refl _ _ | with_reducible apply Below.drew | (with_reducible refine Below.alloc ?_ (by first | omega | (simp only [zA, zS, zD, zN]; omega) | (dsimp only; omega) | (simp only [zA, zS, zD, zN]; dsimp only; omega)) _) | (with_reducible refine Below.setCell ?_ (by first | omega | (simp only [zA, zS, zD, zN]; omega) | (dsimp only; omega) | (simp only [zA, zS, zD, zN]; dsimp only; omega)) _) | (with_reducible apply below_drewN))) (hb1.mono (by first | omega | (simp only [zA, zS, zD, zN]; omega) | (dsimp only; omega) | (simp only [zA, zS, zD, zN]; dsimp only; omega)))
    obtain ⟨hc1, hf1, hz1⟩ := bcell hb1
    try simp only [zA, zS, zD, zN] at hz1
    clear hb1
    dsimp only [Option.getD_none, Option.isSome_none]
    go_wp2_with fail
    go_ret
    exact ⟨rfl, by repeat (first | with_reducible assumption | with_reducible exact Below.refl _ _ | with_reducible apply Below.drew | (with_reducible refine Below.alloc ?_ (by first | omega | (simp only [zA, zS, zD, zN]; omega) | (dsimp only; omega) | (simp only [zA, zS, zD, zN]; dsimp only; omega)) _) | (with_reducible refine Below.setCell ?_ (by first | omega | (simp only [zA, zS, zD, zN]; omega) | (dsimp only; omega) | (simp only [zA, zS, zD, zN]; dsimp only; omega)) _) | (with_reducible apply below_drewN))⟩
  | some m =>
    go_enter Tryz.func44, Tryz.ntmps44
    go_wp2_with fail
    refine (C1.out _ (by repeat (first | with_reducible assumption | with_reducible exact Below.refl _ _ | with_reducible apply Below.drew | (with_reducible refine Below.alloc ?_ (by first | omega | (simp only [zA, zS, zD, zN]; omega) | (dsimp only; omega) | (simp only [zA, zS, zD, zN]; dsimp only; omega)) _) | (with_reducible refine Below.setCell ?_ (by first | omega | (simp only [zA, zS, zD, zN]; omega) | (dsimp only; omega) | (simp only [zA, zS, zD, zN]; dsimp only; omega)) _) | (with_reducible apply below_drewN)))).mono ?_
    rintro e w1 ⟨rfl, hb1⟩
    have hB1 : Below w.heap.size w w1 := Below.trans (by repeat (first | with_reducible assumption | with_reducible exact Below.refl _ _ | with_reducible apply Below.drew | (with_reducible refine Below.alloc ?_ (by first | omega | (simp only [zA, zS, zD, zN]; omega) | (dsimp only; omega) | (simp only [zA, zS, zD, zN]; dsimp only; omega)) _) | (with_reducible refine Below.setCell ?_ (by first | omega | (simp only [zA, zS, zD, zN]; omega) | (dsimp only; omega) | (simp only [zA, zS, zD, zN]; dsimp only; omega)) _) | (with_reducible apply below_drewN))) (hb1.mono (by first | omega | (simp only [zA, zS, zD, zN]; omega) | (dsimp only; omega) | (simp only [zA, zS, zD, zN]; dsimp only; omega)))
    obtain ⟨hc1, hf1, hz1⟩ := bcell hb1
    try simp only [zA, zS, zD, zN] at hz1
    clear hb1
    dsimp only [Option.getD_some, Option.isSome_some]
    go_wp2_with fail
    go_ret
    exact ⟨rfl, by repeat (first | with_reducible assumption | with_reducible exact Below.refl _ _ | with_reducible apply Below.drew | (with_reducible refine Below.alloc ?_ (by first | omega | (simp only [zA, zS, zD, zN]; omega) | (dsimp only; omega) | (simp only [zA, zS, zD, zN]; dsimp only; omega)) _) | (with_reducible refine Below.setCell ?_ (by first | omega | (simp only [zA, zS, zD, zN]; omega) | (dsimp only; omega) | (simp only [zA, zS, zD, zN]; dsimp only; omega)) _) | (with_reducible apply below_drewN))⟩
end Go.Proofs.YtibmnifenfingaaGreatDoor
