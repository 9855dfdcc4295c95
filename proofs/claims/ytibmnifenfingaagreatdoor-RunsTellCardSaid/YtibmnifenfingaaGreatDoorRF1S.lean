/- The walk through the document's answer on a split seed. -/
import Derived.Test.YtibmnifenfingaaGreatDoorRF1
import Derived.Test.YtibmnifenfingaaGreatDoorRngS
namespace Go.Proofs.YtibmnifenfingaaGreatDoor
set_option maxRecDepth 100000
open Go.RowKit
set_option linter.unusedSimpArgs false
set_option linter.unusedVariables false
set_option maxHeartbeats 400000 in
theorem rsplit_aux (s g t u X Y Z : Nat) (hor : bits .or .u64 (Y : Int) 1 = (Z : Int))
    (C1 : Hid (∀ w : World, Calls Tryz.prog 39 #[.agg #[.int .u64 s, .int .u64 g]] w fun e w' => e = .returned (.agg #[.int .u64 t, .int .u64 g]) ∧ Below w.heap.size w w'))
    (C2 : Hid (∀ w : World, Calls Tryz.prog 39 #[.agg #[.int .u64 t, .int .u64 g]] w fun e w' => e = .returned (.agg #[.int .u64 u, .int .u64 g]) ∧ Below w.heap.size w w'))
    (M1 : Hid (∀ w : World, Calls Tryz.prog 40 #[.int .u64 t] w fun e w' => e = .returned (.int .u64 X) ∧ w = w'))
    (M2 : Hid (∀ w : World, Calls Tryz.prog 40 #[.int .u64 u] w fun e w' => e = .returned (.int .u64 Y) ∧ w = w')) (w : World) :
    Calls Tryz.prog 19 #[.agg #[.int .u64 s, .int .u64 g]] w fun e w' => e = .returned (.tuple #[.agg #[.int .u64 u, .int .u64 g], .agg #[.int .u64 X, .int .u64 Z]]) ∧ Below w.heap.size w w' := by
  go_enter Tryz.func19, Tryz.ntmps19
  go_wp2_with fail
  refine (C1.out _).mono ?_
  rintro e w1 ⟨rfl, hb1⟩
  have b0 : Blk w1 w.heap.size #[.int .u64 s, .int .u64 g] 57 := (((Blk.new w _ _).alloc _).alloc _).ext hb1
  have b1 : Blk w1 (w.heap.size + 1) #[.int .u64 0, .int .u64 0] 57 := by simpa using ((Blk.new (w.alloc _) _ _).alloc _).ext hb1
  have b2 : Blk w1 (w.heap.size + 1 + 1) #[.int .u64 0, .int .u64 0] 57 := by simpa using (Blk.new ((w.alloc _).alloc _) _ _).ext hb1
  have hB : Below w.heap.size w w1 := (((Below.refl _ _).alloc (Nat.le_refl _) _).alloc (by simp) _).alloc (by simp; omega) _ |>.trans (hb1.mono (by simp; omega))
  have hz : w.heap.size + 1 + 1 < w1.heap.size := b2.lt
  clear hb1
  go_wp2_with fail
  refine (C2.out _).mono ?_
  rintro e w2 ⟨rfl, hb2⟩
  have q0 : Blk (w1.alloc (.cells #[.int .u64 t, .int .u64 g] 57)) w1.heap.size #[.int .u64 t, .int .u64 g] 57 := Blk.new w1 _ _
  have d1 : Blk w2 (w.heap.size + 1) #[.int .u64 0, .int .u64 0] 57 := (b1.alloc _).ext hb2
  have d2 : Blk w2 (w.heap.size + 1 + 1) #[.int .u64 0, .int .u64 0] 57 := (b2.alloc _).ext hb2
  have d3 : Blk w2 w1.heap.size #[.int .u64 t, .int .u64 g] 57 := q0.ext hb2
  have hB2 : Below w.heap.size w w2 := (hB.alloc (by omega) _).trans (hb2.mono (by simp; omega))
  have hz2 : w1.heap.size < w2.heap.size := d3.lt
  clear hb2 hB b0 b1 b2 q0
  go_upto_region 3 with (fail)
  have q0 : Blk (w2.alloc (.cells #[.int .u64 u, .int .u64 g] 57)) w2.heap.size #[.int .u64 u, .int .u64 g] 57 := Blk.new w2 _ _
  have q1 := d1.alloc (.cells #[.int .u64 u, .int .u64 g] 57)
  have q2 := d2.alloc (.cells #[.int .u64 u, .int .u64 g] 57)
  have q3 := d3.alloc (.cells #[.int .u64 u, .int .u64 g] 57)
  have hB3 : Below w.heap.size w (w2.alloc (.cells #[.int .u64 u, .int .u64 g] 57)) := hB2.alloc (by omega) _
  have hz3 : w2.heap.size < (w2.alloc (.cells #[.int .u64 u, .int .u64 g] 57)).heap.size := q0.lt
  generalize w2.alloc (.cells #[.int .u64 u, .int .u64 g] 57) = w3 at *
  clear d1 d2 d3 hB2
  refine region_mov (S := fun w' => w'.cell? ⟨w1.heap.size, 0, none⟩ = some (.int .u64 t) ∧ w'.cell? ⟨w1.heap.size, 1, none⟩ = some (.int .u64 g) ∧ w'.cell? ⟨w2.heap.size, 0, none⟩ = some (.int .u64 u) ∧ w'.cell? ⟨w2.heap.size, 1, none⟩ = some (.int .u64 g)) (n := 10) (ms := [(true, 0), (true, 1), (true, 2), (true, 4), (true, 5), (false, 3), (false, 6), (true, 7), (true, 8), (false, 9), (false, 10)]) (hm := by kernel_rfl) (hB := by kernel_rfl) (hQ := fun c a d v w h => by cases d <;> exact h) ?_
  have HS0 : Hid ((fun w' => w'.cell? ⟨w1.heap.size, 0, none⟩ = some (.int .u64 t) ∧ w'.cell? ⟨w1.heap.size, 1, none⟩ = some (.int .u64 g) ∧ w'.cell? ⟨w2.heap.size, 0, none⟩ = some (.int .u64 u) ∧ w'.cell? ⟨w2.heap.size, 1, none⟩ = some (.int .u64 g)) w3.drew) := ⟨q3.cell 0, q3.cell 1, q0.cell 0, q0.cell 1⟩
  iterate 5
    rw [mov_take]
    simp only [List.getElem?_toArray, List.getElem?_cons_succ, List.getElem?_cons_zero]
    refine ⟨?_, .inl ⟨by rfl, ?_⟩, HS0.out, ?_⟩
    rotate_left
    · rintro w' ⟨s0, s1, s2, s3⟩
      go_simp
      rfl
    simp only [Act.put, List.setIfInBounds_toArray, List.set_cons_zero, List.set_cons_succ]
  have c0 := q0.cell 0
  have c1 := q0.cell 1
  simp only [List.getElem?_toArray, List.getElem?_cons_succ, List.getElem?_cons_zero] at c0 c1
  have d0 := q1.cell 0
  have d1 := q1.cell 1
  simp only [List.getElem?_toArray, List.getElem?_cons_succ, List.getElem?_cons_zero] at d0 d1
  have e0 := q2.cell 0
  have e1 := q2.cell 1
  simp only [List.getElem?_toArray, List.getElem?_cons_succ, List.getElem?_cons_zero] at e0 e1
  have f0 := q3.cell 0
  have f1 := q3.cell 1
  simp only [List.getElem?_toArray, List.getElem?_cons_succ, List.getElem?_cons_zero] at f0 f1
  have c9 := q0.unfrozen
  have d9 := q1.unfrozen
  have e9 := q2.unfrozen
  have f9 := q3.unfrozen
  rw [mov_step]
  simp only [List.getElem?_toArray, List.getElem?_cons_succ, List.getElem?_cons_zero]
  go_wp2_with fail
  refine (M1.out _).mono ?_
  rintro e w4 ⟨rfl, rfl⟩
  go_wp2_with fail
  refine And.intro (fun _ => HS0.out) ?_
  rw [mov_step]
  simp only [List.getElem?_toArray, List.getElem?_cons_succ, List.getElem?_cons_zero]
  go_wp2_with fail
  refine (M2.out _).mono ?_
  rintro e w4 ⟨rfl, rfl⟩
  go_wp2_with fail
  refine And.intro (fun _ => HS0.out) ?_
  iterate 2
    rw [mov_take]
    simp only [List.getElem?_toArray, List.getElem?_cons_succ, List.getElem?_cons_zero]
    refine ⟨?_, .inl ⟨by rfl, ?_⟩, HS0.out, ?_⟩
    rotate_left
    · rintro w' ⟨s0, s1, s2, s3⟩
      go_simp
      rfl
    simp only [Act.put, List.setIfInBounds_toArray, List.set_cons_zero, List.set_cons_succ]
  rw [mov_step]
  simp only [List.getElem?_toArray, List.getElem?_cons_succ, List.getElem?_cons_zero]
  go_wp2_with fail
  refine And.intro (fun _ => ?_) ?_
  · have r0 := (q0.oth (w.heap.size + 1) 0 (by omega) (.int .u64 u)).oth (w.heap.size + 1) 1 (by omega) (.int .u64 g)
    have r3 := (q3.oth (w.heap.size + 1) 0 (by omega) (.int .u64 u)).oth (w.heap.size + 1) 1 (by omega) (.int .u64 g)
    exact ⟨r3.cell 0, r3.cell 1, r0.cell 0, r0.cell 1⟩
  rw [mov_step]
  simp only [List.getElem?_toArray, List.getElem?_cons_succ, List.getElem?_cons_zero]
  go_wp2_with fail
  refine And.intro (fun h => absurd h (by omega)) ?_
  rw [wpMov]
  go_wp2_with fail
  refine bodyPost_ret (v := .tuple #[.agg #[.int .u64 u, .int .u64 g], .agg #[.int .u64 X, .int .u64 Z]]) (by simp [results, Tryz.results19, go_sem, c0, c1, c9, d0, d1, d9, e0, e1, e9, f0, f1, f9, hor]) rfl ⟨rfl, ?_⟩
  repeat (first | with_reducible assumption | with_reducible exact Below.refl _ _ | with_reducible apply Below.drew | (with_reducible refine Below.alloc ?_ (by first | omega | (simp only [zA, zS, zD, zN]; omega) | (dsimp only; omega) | (simp only [zA, zS, zD, zN]; dsimp only; omega)) _) | (with_reducible refine Below.setCell ?_ (by first | omega | (simp only [zA, zS, zD, zN]; omega) | (dsimp only; omega) | (simp only [zA, zS, zD, zN]; dsimp only; omega)) _) | (with_reducible apply below_drewN))
theorem rsplit_any (s g : Nat) (w : World) :
    Calls Tryz.prog 19 #[.agg #[.int .u64 s, .int .u64 g]] w fun e w' => e = .returned (.tuple #[.agg #[.int .u64 (((s + g) % 18446744073709551616 + g) % 18446744073709551616 : Nat), .int .u64 g],
       .agg #[.int .u64 (PRng.mix ((s + g) % 18446744073709551616) : Nat), .int .u64 (PRng.mix (((s + g) % 18446744073709551616 + g) % 18446744073709551616) ||| 1 : Nat)]]) ∧ Below w.heap.size w w' :=
  rsplit_aux s g _ _ _ _ _ (bits_or_u64_nat _ 1 (PRng.mix_lt _) (by decide)) (Lib.hid (rstep_any s g)) (Lib.hid (rstep_any _ g))
    (Lib.hid (rmix_any _ (Nat.mod_lt _ (by decide)))) (Lib.hid (rmix_any _ (Nat.mod_lt _ (by decide)))) w
end Go.Proofs.YtibmnifenfingaaGreatDoor
