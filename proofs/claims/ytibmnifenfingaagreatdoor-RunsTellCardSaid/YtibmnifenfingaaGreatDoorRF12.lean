/- The walk through the document's answer on what is made of a tape. -/
import Derived.Test.YtibmnifenfingaaGreatDoorRF11
namespace Go.Proofs.YtibmnifenfingaaGreatDoor
set_option maxRecDepth 100000
open Go.RowKit
set_option linter.unusedSimpArgs false
set_option linter.unusedVariables false
section
variable {w : World} {k a b : Int} {ad : Option Addr} {sn cap : Nat} {lad : Option Addr} {lcap ln : Nat}
set_option maxHeartbeats 2000000 in
theorem rreplay_err {x : Int} (CP : Hid (∀ W, Below w.heap.size w W → Calls Tryz.prog 66 #[.agg #[.int .i64 k, .int .i64 a, .int .i64 b, .slice ad sn cap], .agg #[.bool false, .int .i64 0, .slice none 0 0, .slice none 0 0, .int .i64 0, .int .i64 0], .slice lad ln lcap, .bool false] W (PlaysR W (fun _ => False) (.error x)))) : Calls Tryz.prog 43 #[.agg #[.int .i64 k, .int .i64 a, .int .i64 b, .slice ad sn cap], .slice lad ln lcap] w fun e w' => (∃ rv, e = .returned (.tuple #[rv, .int .i64 (x)]) ∧ ValIn (fun b => w.heap.size ≤ b) w' rv (zeroV)) ∧ Below w.heap.size w w' := by
  go_enter Tryz.func43, Tryz.ntmps43
  go_upto_region 1 with (fail)
  generalize hW : (w.alloc (.cells #[.int .i64 k, .int .i64 a, .int .i64 b, .slice ad sn cap] 24)).alloc (.cells #[.bool false, .int .i64 0, .slice none 0 0] 45) = W0
  have hB0 : Below w.heap.size w W0 := by rw [← hW]; repeat (first | with_reducible assumption | with_reducible exact Below.refl _ _ | with_reducible apply Below.drew | (with_reducible refine Below.alloc ?_ (by first | omega | (simp only [zA, zS, zD, zN]; omega) | (dsimp only; omega) | (simp only [zA, zS, zD, zN]; dsimp only; omega)) _) | (with_reducible refine Below.setCell ?_ (by first | omega | (simp only [zA, zS, zD, zN]; omega) | (dsimp only; omega) | (simp only [zA, zS, zD, zN]; dsimp only; omega)) _) | (with_reducible apply below_drewN))
  have x0 : Blk W0 w.heap.size #[.int .i64 k, .int .i64 a, .int .i64 b, .slice ad sn cap] 24 := by rw [← hW]; exact (Blk.new w _ _).alloc _
  have x1 : Blk W0 (w.heap.size + 1) #[.bool false, .int .i64 0, .slice none 0 0] 45 := by rw [← hW]; simpa using Blk.new (w.alloc (.cells #[.int .i64 k, .int .i64 a, .int .i64 b, .slice ad sn cap] 24)) #[.bool false, .int .i64 0, .slice none 0 0] 45
  clear hW
  have g0 := x0.cell 0
  have g1 := x0.cell 1
  have g2 := x0.cell 2
  have g3 := x0.cell 3
  simp only [List.getElem?_toArray, List.getElem?_cons_succ, List.getElem?_cons_zero] at g0 g1 g2 g3
  go_wp2_with fail
  refine (CP.out _ hB0).mono ?_
  rintro e W1 ⟨⟨pv, rfl, hx, pl, pn, pad, pk, pcap, tad, tn, tc, at1, rfl⟩, hb⟩
  have qx : (x == 0) = false := by simpa using hx
  have qx2 : (x != 0) = true := by simpa using hx
  have hB1 : Below w.heap.size w W1 := hB0.trans (hb.mono hB0.size)
  have y1 := x1.ext hb
  have hzb := hb.size
  have hl1 := y1.lt
  go_upto_region 2 with (fail)
  generalize hW : W1.alloc (.cells #[.bool pl, .int .i64 pn, .slice pad pk pcap, .slice tad tn tc, .int .i64 at1, .int .i64 x] 110) = W2
  have hB2 : Below w.heap.size w W2 := by rw [← hW]; exact hB1.alloc (by omega) _
  have z1 : Blk W2 (w.heap.size + 1) #[.bool false, .int .i64 0, .slice none 0 0] 45 := by rw [← hW]; exact y1.alloc _
  obtain ⟨p, hp⟩ : ∃ p, p = W1.heap.size := ⟨_, rfl⟩
  have z2 : Blk W2 p #[.bool pl, .int .i64 pn, .slice pad pk pcap, .slice tad tn tc, .int .i64 at1, .int .i64 x] 110 := by rw [← hW, hp]; exact Blk.new _ _ _
  have hp1 : w.heap.size + 1 < p := by omega
  have HV : Hid (∀ {v t}, ValIn (fun x => W0.heap.size ≤ x) W1 v t → ValIn (fun x => w.heap.size + 2 ≤ x ∧ x < p) W2 v t) := fun h => h.keep (by rw [← hW]; simp) (fun x hx hl => ⟨⟨by have := x1.lt; omega, by omega⟩, by rw [← hW]; exact Below.heap_alloc W1 _ x hl⟩)
  rw [← hp]
  clear hW hp g0 g1 g2 g3 x0 y1 hzb hl1
  have f5 := z2.cell 5
  simp only [List.getElem?_toArray, List.getElem?_cons_succ, List.getElem?_cons_zero] at f5
  have h0 := z2.cell 0
  have h1 := z2.cell 1
  have h2 := z2.cell 2
  have h3 := z2.cell 3
  have h4 := z2.cell 4
  have h5 := z2.cell 5
  simp only [List.getElem?_toArray, List.getElem?_cons_succ, List.getElem?_cons_zero] at h0 h1 h2 h3 h4 h5
  go_wp2_with fail
  clear h0 h1 h2 h3 h4 h5
  refine region_mov (S := fun w' => w'.cell? ⟨p, 5, none⟩ = some (.int .i64 (x))) (n := 4) (ms := [(true, 0), (true, 1), (true, 2), (false, 3), (false, 4)]) (hm := by kernel_rfl) (hB := by kernel_rfl) (hQ := fun c a d v w h => by cases d <;> exact h) ?_
  have HS0 : Hid ((fun w' => w'.cell? ⟨p, 5, none⟩ = some (.int .i64 (x))) W2.drew) := f5
  iterate 3
    rw [mov_take]
    simp only [List.getElem?_toArray, List.getElem?_cons_succ, List.getElem?_cons_zero]
    refine ⟨?_, .inl ⟨by rfl, ?_⟩, HS0.out, ?_⟩
    rotate_left
    · rintro w' s0
      go_simp
      rfl
    simp only [Act.put, List.setIfInBounds_toArray, List.set_cons_zero, List.set_cons_succ]
  have hBd : Below w.heap.size w W2.drew := hB2.drew
  have v1 : Blk W2.drew (w.heap.size + 1) #[.bool false, .int .i64 0, .slice none 0 0] 45 := z1
  have v2 : Blk W2.drew p #[.bool pl, .int .i64 pn, .slice pad pk pcap, .slice tad tn tc, .int .i64 at1, .int .i64 x] 110 := z2
  clear HS0 f5 z1 z2 HV
  generalize W2.drew = WD at *
  have e0 := v1.cell 0
  have e1 := v1.cell 1
  have e2 := v1.cell 2
  simp only [List.getElem?_toArray, List.getElem?_cons_succ, List.getElem?_cons_zero] at e0 e1 e2
  have u0 := v1.unfrozen 0
  have u1 := v1.unfrozen 1
  have u2 := v1.unfrozen 2
  have v2' := ((v2.oth (w.heap.size + 1) 0 (by omega) (.bool false)).oth (w.heap.size + 1) 1 (by omega) (.int .i64 0)).oth (w.heap.size + 1) 2 (by omega) (.slice none 0 0)
  have HC := Lib.hid (v2'.cell 5)
  clear v2'
  rw [mov_step]
  simp only [List.getElem?_toArray, List.getElem?_cons_succ, List.getElem?_cons_zero]
  go_wp2_with fail
  refine And.intro (fun _ => HC.out) ?_
  rw [mov_step]
  simp only [List.getElem?_toArray, List.getElem?_cons_succ, List.getElem?_cons_zero]
  go_wp2_with fail
  refine And.intro (fun h => absurd h (by omega)) ?_
  rw [wpMov]
  go_wp2_with fail
  refine bodyPost_ret (v := .tuple #[.agg #[.bool false, .int .i64 0, .slice none 0 0], .int .i64 (x)]) (by simp [results, Tryz.results43, go_sem, e0, e1, e2, u0, u1, u2]) rfl ?_
  exact ⟨⟨_, rfl, ValIn.leaf _ _ ⟨by omega, by omega⟩⟩, ((hBd.setCell (by simp) _).setCell (by simp) _).setCell (by simp) _⟩
set_option maxHeartbeats 2000000 in
theorem rreplay_more {t : VT} {tape : List Int} {q : Nat} (hq : q < ln) (CP : Hid (∀ W, Below w.heap.size w W → Calls Tryz.prog 66 #[.agg #[.int .i64 k, .int .i64 a, .int .i64 b, .slice ad sn cap], .agg #[.bool false, .int .i64 0, .slice none 0 0, .slice none 0 0, .int .i64 0, .int .i64 0], .slice lad ln lcap, .bool false] W (PlaysR W (fun _ => False) (.ok (t, (tape, q)))))) : Calls Tryz.prog 43 #[.agg #[.int .i64 k, .int .i64 a, .int .i64 b, .slice ad sn cap], .slice lad ln lcap] w fun e w' => (∃ rv, e = .returned (.tuple #[rv, .int .i64 (3)]) ∧ ValIn (fun b => w.heap.size ≤ b) w' rv (zeroV)) ∧ Below w.heap.size w w' := by
  have p0 : (q : Int) < (ln : Int) := by omega
  go_enter Tryz.func43, Tryz.ntmps43
  go_upto_region 1 with (fail)
  generalize hW : (w.alloc (.cells #[.int .i64 k, .int .i64 a, .int .i64 b, .slice ad sn cap] 24)).alloc (.cells #[.bool false, .int .i64 0, .slice none 0 0] 45) = W0
  have hB0 : Below w.heap.size w W0 := by rw [← hW]; repeat (first | with_reducible assumption | with_reducible exact Below.refl _ _ | with_reducible apply Below.drew | (with_reducible refine Below.alloc ?_ (by first | omega | (simp only [zA, zS, zD, zN]; omega) | (dsimp only; omega) | (simp only [zA, zS, zD, zN]; dsimp only; omega)) _) | (with_reducible refine Below.setCell ?_ (by first | omega | (simp only [zA, zS, zD, zN]; omega) | (dsimp only; omega) | (simp only [zA, zS, zD, zN]; dsimp only; omega)) _) | (with_reducible apply below_drewN))
  have x0 : Blk W0 w.heap.size #[.int .i64 k, .int .i64 a, .int .i64 b, .slice ad sn cap] 24 := by rw [← hW]; exact (Blk.new w _ _).alloc _
  have x1 : Blk W0 (w.heap.size + 1) #[.bool false, .int .i64 0, .slice none 0 0] 45 := by rw [← hW]; simpa using Blk.new (w.alloc (.cells #[.int .i64 k, .int .i64 a, .int .i64 b, .slice ad sn cap] 24)) #[.bool false, .int .i64 0, .slice none 0 0] 45
  clear hW
  have g0 := x0.cell 0
  have g1 := x0.cell 1
  have g2 := x0.cell 2
  have g3 := x0.cell 3
  simp only [List.getElem?_toArray, List.getElem?_cons_succ, List.getElem?_cons_zero] at g0 g1 g2 g3
  go_wp2_with fail
  refine (CP.out _ hB0).mono ?_
  rintro e W1 ⟨⟨pv, rfl, pl, pn, pad, pk, pcap, tv, rfl, hv, ht⟩, hb⟩
  have HV0 := Lib.hid hv
  obtain ⟨_, tad, tc, rfl, _⟩ := ht
  clear hv
  have hB1 : Below w.heap.size w W1 := hB0.trans (hb.mono hB0.size)
  have y1 := x1.ext hb
  have hzb := hb.size
  have hl1 := y1.lt
  go_upto_region 2 with (fail)
  generalize hW : W1.alloc (.cells #[.bool pl, .int .i64 pn, .slice pad pk pcap, .slice tad tape.length tc, .int .i64 (q : Nat), .int .i64 0] 110) = W2
  have hB2 : Below w.heap.size w W2 := by rw [← hW]; exact hB1.alloc (by omega) _
  have z1 : Blk W2 (w.heap.size + 1) #[.bool false, .int .i64 0, .slice none 0 0] 45 := by rw [← hW]; exact y1.alloc _
  obtain ⟨p, hp⟩ : ∃ p, p = W1.heap.size := ⟨_, rfl⟩
  have z2 : Blk W2 p #[.bool pl, .int .i64 pn, .slice pad pk pcap, .slice tad tape.length tc, .int .i64 (q : Nat), .int .i64 0] 110 := by rw [← hW, hp]; exact Blk.new _ _ _
  have hp1 : w.heap.size + 1 < p := by omega
  have HV : Hid (∀ {v t}, ValIn (fun x => W0.heap.size ≤ x) W1 v t → ValIn (fun x => w.heap.size + 2 ≤ x ∧ x < p) W2 v t) := fun h => h.keep (by rw [← hW]; simp) (fun x hx hl => ⟨⟨by have := x1.lt; omega, by omega⟩, by rw [← hW]; exact Below.heap_alloc W1 _ x hl⟩)
  rw [← hp]
  clear hW hp g0 g1 g2 g3 x0 y1 hzb hl1
  have h0 := z2.cell 0
  have h1 := z2.cell 1
  have h2 := z2.cell 2
  have h3 := z2.cell 3
  have h4 := z2.cell 4
  have h5 := z2.cell 5
  simp only [List.getElem?_toArray, List.getElem?_cons_succ, List.getElem?_cons_zero] at h0 h1 h2 h3 h4 h5
  have uu := z2.unfrozen 5
  go_upto_region 4 with (fail)
  clear h0 h1 h2 h3 h4 h5 uu
  generalize hW : W2.setCell ⟨p, 5, none⟩ (.int .i64 3) = W3
  have hB3 : Below w.heap.size w W3 := by rw [← hW]; exact hB2.setCell (by dsimp only; omega) _
  have n2 : Blk W3 p #[.bool pl, .int .i64 pn, .slice pad pk pcap, .slice tad tape.length tc, .int .i64 (q : Nat), .int .i64 3] 110 := by rw [← hW]; simpa using z2.set 5 (.int .i64 3)
  have n1 : Blk W3 (w.heap.size + 1) #[.bool false, .int .i64 0, .slice none 0 0] 45 := by rw [← hW]; exact z1.oth p 5 (by omega) _
  clear hW z1 z2 hB2 HV HV0
  have f5 := n2.cell 5
  simp only [List.getElem?_toArray, List.getElem?_cons_succ, List.getElem?_cons_zero] at f5
  have h0 := n2.cell 0
  have h1 := n2.cell 1
  have h2 := n2.cell 2
  have h3 := n2.cell 3
  have h4 := n2.cell 4
  have h5 := n2.cell 5
  simp only [List.getElem?_toArray, List.getElem?_cons_succ, List.getElem?_cons_zero] at h0 h1 h2 h3 h4 h5
  go_wp2_with fail
  clear h0 h1 h2 h3 h4 h5
  refine region_mov (S := fun w' => w'.cell? ⟨p, 5, none⟩ = some (.int .i64 (3))) (n := 4) (ms := [(true, 0), (true, 1), (true, 2), (false, 3), (false, 4)]) (hm := by kernel_rfl) (hB := by kernel_rfl) (hQ := fun c a d v w h => by cases d <;> exact h) ?_
  have HS0 : Hid ((fun w' => w'.cell? ⟨p, 5, none⟩ = some (.int .i64 (3))) W3.drew) := f5
  iterate 3
    rw [mov_take]
    simp only [List.getElem?_toArray, List.getElem?_cons_succ, List.getElem?_cons_zero]
    refine ⟨?_, .inl ⟨by rfl, ?_⟩, HS0.out, ?_⟩
    rotate_left
    · rintro w' s0
      go_simp
      rfl
    simp only [Act.put, List.setIfInBounds_toArray, List.set_cons_zero, List.set_cons_succ]
  have hBd : Below w.heap.size w W3.drew := hB3.drew
  have v1 : Blk W3.drew (w.heap.size + 1) #[.bool false, .int .i64 0, .slice none 0 0] 45 := n1
  have v2 : Blk W3.drew p #[.bool pl, .int .i64 pn, .slice pad pk pcap, .slice tad tape.length tc, .int .i64 (q : Nat), .int .i64 3] 110 := n2
  clear HS0 f5 n1 n2
  generalize W3.drew = WD at *
  have e0 := v1.cell 0
  have e1 := v1.cell 1
  have e2 := v1.cell 2
  simp only [List.getElem?_toArray, List.getElem?_cons_succ, List.getElem?_cons_zero] at e0 e1 e2
  have u0 := v1.unfrozen 0
  have u1 := v1.unfrozen 1
  have u2 := v1.unfrozen 2
  have v2' := ((v2.oth (w.heap.size + 1) 0 (by omega) (.bool false)).oth (w.heap.size + 1) 1 (by omega) (.int .i64 0)).oth (w.heap.size + 1) 2 (by omega) (.slice none 0 0)
  have HC := Lib.hid (v2'.cell 5)
  clear v2'
  rw [mov_step]
  simp only [List.getElem?_toArray, List.getElem?_cons_succ, List.getElem?_cons_zero]
  go_wp2_with fail
  refine And.intro (fun _ => HC.out) ?_
  rw [mov_step]
  simp only [List.getElem?_toArray, List.getElem?_cons_succ, List.getElem?_cons_zero]
  go_wp2_with fail
  refine And.intro (fun h => absurd h (by omega)) ?_
  rw [wpMov]
  go_wp2_with fail
  refine bodyPost_ret (v := .tuple #[.agg #[.bool false, .int .i64 0, .slice none 0 0], .int .i64 (3)]) (by simp [results, Tryz.results43, go_sem, e0, e1, e2, u0, u1, u2]) rfl ?_
  exact ⟨⟨_, rfl, ValIn.leaf _ _ ⟨by omega, by omega⟩⟩, ((hBd.setCell (by simp) _).setCell (by simp) _).setCell (by simp) _⟩
set_option maxHeartbeats 2000000 in
theorem rreplay_ok {t : VT} {tape : List Int} {q : Nat} (hq : ¬ q < ln) (CP : Hid (∀ W, Below w.heap.size w W → Calls Tryz.prog 66 #[.agg #[.int .i64 k, .int .i64 a, .int .i64 b, .slice ad sn cap], .agg #[.bool false, .int .i64 0, .slice none 0 0, .slice none 0 0, .int .i64 0, .int .i64 0], .slice lad ln lcap, .bool false] W (PlaysR W (fun _ => False) (.ok (t, (tape, q)))))) : Calls Tryz.prog 43 #[.agg #[.int .i64 k, .int .i64 a, .int .i64 b, .slice ad sn cap], .slice lad ln lcap] w fun e w' => (∃ rv, e = .returned (.tuple #[rv, .int .i64 (0)]) ∧ ValIn (fun b => w.heap.size ≤ b) w' rv (t)) ∧ Below w.heap.size w w' := by
  have p0 : ¬ (q : Int) < (ln : Int) := by omega
  go_enter Tryz.func43, Tryz.ntmps43
  go_upto_region 1 with (fail)
  generalize hW : (w.alloc (.cells #[.int .i64 k, .int .i64 a, .int .i64 b, .slice ad sn cap] 24)).alloc (.cells #[.bool false, .int .i64 0, .slice none 0 0] 45) = W0
  have hB0 : Below w.heap.size w W0 := by rw [← hW]; repeat (first | with_reducible assumption | with_reducible exact Below.refl _ _ | with_reducible apply Below.drew | (with_reducible refine Below.alloc ?_ (by first | omega | (simp only [zA, zS, zD, zN]; omega) | (dsimp only; omega) | (simp only [zA, zS, zD, zN]; dsimp only; omega)) _) | (with_reducible refine Below.setCell ?_ (by first | omega | (simp only [zA, zS, zD, zN]; omega) | (dsimp only; omega) | (simp only [zA, zS, zD, zN]; dsimp only; omega)) _) | (with_reducible apply below_drewN))
  have x0 : Blk W0 w.heap.size #[.int .i64 k, .int .i64 a, .int .i64 b, .slice ad sn cap] 24 := by rw [← hW]; exact (Blk.new w _ _).alloc _
  have x1 : Blk W0 (w.heap.size + 1) #[.bool false, .int .i64 0, .slice none 0 0] 45 := by rw [← hW]; simpa using Blk.new (w.alloc (.cells #[.int .i64 k, .int .i64 a, .int .i64 b, .slice ad sn cap] 24)) #[.bool false, .int .i64 0, .slice none 0 0] 45
  clear hW
  have g0 := x0.cell 0
  have g1 := x0.cell 1
  have g2 := x0.cell 2
  have g3 := x0.cell 3
  simp only [List.getElem?_toArray, List.getElem?_cons_succ, List.getElem?_cons_zero] at g0 g1 g2 g3
  go_wp2_with fail
  refine (CP.out _ hB0).mono ?_
  rintro e W1 ⟨⟨pv, rfl, pl, pn, pad, pk, pcap, tv, rfl, hv, ht⟩, hb⟩
  have HV0 := Lib.hid hv
  obtain ⟨_, tad, tc, rfl, _⟩ := ht
  clear hv
  have hB1 : Below w.heap.size w W1 := hB0.trans (hb.mono hB0.size)
  have y1 := x1.ext hb
  have hzb := hb.size
  have hl1 := y1.lt
  go_upto_region 2 with (fail)
  generalize hW : W1.alloc (.cells #[.bool pl, .int .i64 pn, .slice pad pk pcap, .slice tad tape.length tc, .int .i64 (q : Nat), .int .i64 0] 110) = W2
  have hB2 : Below w.heap.size w W2 := by rw [← hW]; exact hB1.alloc (by omega) _
  have z1 : Blk W2 (w.heap.size + 1) #[.bool false, .int .i64 0, .slice none 0 0] 45 := by rw [← hW]; exact y1.alloc _
  obtain ⟨p, hp⟩ : ∃ p, p = W1.heap.size := ⟨_, rfl⟩
  have z2 : Blk W2 p #[.bool pl, .int .i64 pn, .slice pad pk pcap, .slice tad tape.length tc, .int .i64 (q : Nat), .int .i64 0] 110 := by rw [← hW, hp]; exact Blk.new _ _ _
  have hp1 : w.heap.size + 1 < p := by omega
  have HV : Hid (∀ {v t}, ValIn (fun x => W0.heap.size ≤ x) W1 v t → ValIn (fun x => w.heap.size + 2 ≤ x ∧ x < p) W2 v t) := fun h => h.keep (by rw [← hW]; simp) (fun x hx hl => ⟨⟨by have := x1.lt; omega, by omega⟩, by rw [← hW]; exact Below.heap_alloc W1 _ x hl⟩)
  rw [← hp]
  clear hW hp g0 g1 g2 g3 x0 y1 hzb hl1
  have h0 := z2.cell 0
  have h1 := z2.cell 1
  have h2 := z2.cell 2
  have h3 := z2.cell 3
  have h4 := z2.cell 4
  have h5 := z2.cell 5
  simp only [List.getElem?_toArray, List.getElem?_cons_succ, List.getElem?_cons_zero] at h0 h1 h2 h3 h4 h5
  have e0 := z1.cell 0
  have e1 := z1.cell 1
  have e2 := z1.cell 2
  simp only [List.getElem?_toArray, List.getElem?_cons_succ, List.getElem?_cons_zero] at e0 e1 e2
  have u0 := z1.unfrozen 0
  have u1 := z1.unfrozen 1
  have u2 := z1.unfrozen 2
  have HV1 := Lib.hid (HV.out HV0.out)
  clear HV HV0
  go_wp2_with fail
  refine bodyPost_ret (v := .tuple #[.agg #[.bool pl, .int .i64 pn, .slice pad pk pcap], .int .i64 0]) (by simp [results, Tryz.results43, go_sem, e0, e1, e2, u0, u1, u2, h0, h1, h2]) rfl ?_
  refine ⟨⟨_, rfl, HV1.out.keep (by simp only [size_setCell]; exact Nat.le_refl _) (fun x hx hl => ⟨by omega, ?_⟩)⟩, ((hB2.setCell (by simp) _).setCell (by simp) _).setCell (by simp) _⟩
  rw [Below.heap_setCell _ _ _ _ (by dsimp only; omega), Below.heap_setCell _ _ _ _ (by dsimp only; omega), Below.heap_setCell _ _ _ _ (by dsimp only; omega)]
end
theorem rreplay_any (g : GT) (hc : GT.check g = 0) (l : List Int) (gv lv : Value) (w : World) (hg : GenAt w gv g) (hl : IntsAt w lv l) :
    Calls Tryz.prog 43 #[gv, lv] w fun e w' => (∃ rv, e = .returned (.tuple #[rv, .int .i64 (playR g l).2]) ∧ ValIn (fun b => w.heap.size ≤ b) w' rv (playR g l).1) ∧ Below w.heap.size w w' := by
  have CP := Lib.hid (fun W (h : Below w.heap.size w W) => rplay0 false g hc l gv lv W (hg.ext h) (hl.ext h))
  obtain ⟨k, a, b, sn, ad, cap, rfl⟩ := hg.shape
  obtain ⟨lad, lcap, rfl, _⟩ := hl.form
  have HR := playR_C g hc l
  generalize GT.play (stC false l) g ([], 0) = r at *
  cases r with
  | error x => rw [HR]; exact rreplay_err CP
  | ok r =>
    obtain ⟨t, tape, q⟩ := r
    by_cases hq : q < l.length
    · simp only [if_pos hq] at HR
      rw [HR]; exact rreplay_more hq CP
    · simp only [if_neg hq] at HR
      rw [HR]; exact rreplay_ok hq CP
end Go.Proofs.YtibmnifenfingaaGreatDoor
