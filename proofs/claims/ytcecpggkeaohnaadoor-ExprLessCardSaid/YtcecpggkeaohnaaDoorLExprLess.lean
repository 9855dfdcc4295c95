/- The walk through the statement ExprLess. -/
import Derived.Test.YtcecpggkeaohnaaDoorEX7
import Derived.Test.YtcecpggkeaohnaaDoorRegm
import Derived.Test.YtcecpggkeaohnaaDoorRegm
import Derived.Test.YtcecpggkeaohnaaDoorRegm
namespace Go.Proofs.YtcecpggkeaohnaaDoor
set_option maxRecDepth 100000
open Go.RowKit
set_option linter.unusedSimpArgs false
set_option linter.unusedVariables false
set_option maxRecDepth 100000 in
set_option maxHeartbeats 4000000 in
theorem exprLess_go {v0 v1 v2 v3 : Value} (w : World) (hT : TakesAt w) (x : ET) (o0 : ExprAt w v0 x) (y : ET) (o1 : ExprAt w v1 y) (z : ET) (o2 : ExprAt w v2 z) (v : VT) (o3 : ValAt w v3 v) :
    Calls Tryd.prog 3 #[v0, v1, v2, v3] w fun e w' => e = .returned (.bool true) ∧ Below w.heap.size w w' := by
  have HT := Lib.hid hT
  have H0 := Lib.hid o0
  have H1 := Lib.hid o1
  have H2 := Lib.hid o2
  have H3 := Lib.hid o3
  obtain ⟨k0, n0, s0, a0, c0, rfl⟩ := o0.shape
  obtain ⟨k1, n1, s1, a1, c1, rfl⟩ := o1.shape
  obtain ⟨k2, n2, s2, a2, c2, rfl⟩ := o2.shape
  obtain ⟨l3, n3, s3, a3, c3, rfl⟩ := o3.shape
  clear hT o0 o1 o2 o3
  go_enter Tryd.func3, Tryd.ntmps3
  go_wp2_with fail
  generalize hW0 : ((((w.alloc (.cells #[.int .i64 k0, .int .i64 n0, .slice a0 s0 c0] 24)).alloc (.cells #[.int .i64 k1, .int .i64 n1, .slice a1 s1 c1] 24)).alloc (.cells #[.int .i64 k2, .int .i64 n2, .slice a2 s2 c2] 24)).alloc (.cells #[.bool l3, .int .i64 n3, .slice a3 s3 c3] 27)) = W0
  have hB0 : Below w.heap.size w W0 := by rw [← hW0]; repeat (first | with_reducible assumption | with_reducible exact Below.refl _ _ | with_reducible apply Below.drew | (with_reducible refine Below.alloc ?_ (by first | omega | (simp only [World.size_alloc, size_setCell, size_drew, size_drewN]; omega) | (dsimp only; omega) | (simp only [World.size_alloc, size_setCell, size_drew, size_drewN]; dsimp only; omega)) _) | (with_reducible refine Below.setCell ?_ (by first | omega | (simp only [World.size_alloc, size_setCell, size_drew, size_drewN]; omega) | (dsimp only; omega) | (simp only [World.size_alloc, size_setCell, size_drew, size_drewN]; dsimp only; omega)) _) | (with_reducible apply below_drewN))
  have X0 : Blk W0 w.heap.size #[.int .i64 k0, .int .i64 n0, .slice a0 s0 c0] 24 := by rw [← hW0]; exact (((Blk.new _ _ _).alloc _).alloc _).alloc _
  have X1 : Blk W0 (w.heap.size + 1) #[.int .i64 k1, .int .i64 n1, .slice a1 s1 c1] 24 := by rw [← hW0]; exact (show Blk _ _ _ _ by simpa using Blk.new (w.alloc (.cells #[.int .i64 k0, .int .i64 n0, .slice a0 s0 c0] 24)) #[.int .i64 k1, .int .i64 n1, .slice a1 s1 c1] 24).alloc _ |>.alloc _
  have X2 : Blk W0 (w.heap.size + 1 + 1) #[.int .i64 k2, .int .i64 n2, .slice a2 s2 c2] 24 := by rw [← hW0]; exact (show Blk _ _ _ _ by simpa using Blk.new ((w.alloc (.cells #[.int .i64 k0, .int .i64 n0, .slice a0 s0 c0] 24)).alloc (.cells #[.int .i64 k1, .int .i64 n1, .slice a1 s1 c1] 24)) #[.int .i64 k2, .int .i64 n2, .slice a2 s2 c2] 24).alloc _
  have X3 : Blk W0 (w.heap.size + 1 + 1 + 1) #[.bool l3, .int .i64 n3, .slice a3 s3 c3] 27 := by rw [← hW0]; simpa using Blk.new (((w.alloc (.cells #[.int .i64 k0, .int .i64 n0, .slice a0 s0 c0] 24)).alloc (.cells #[.int .i64 k1, .int .i64 n1, .slice a1 s1 c1] 24)).alloc (.cells #[.int .i64 k2, .int .i64 n2, .slice a2 s2 c2] 24)) #[.bool l3, .int .i64 n3, .slice a3 s3 c3] 27
  clear hW0
  refine (asked_fact _ (HT.out.ext hB0)).mono ?_
  rintro e W1 ⟨rfl, hb1⟩
  have hB1 := hB0.trans (hb1.mono hB0.size)
  have X0 := X0.ext hb1
  have X1 := X1.ext hb1
  have X2 := X2.ext hb1
  have X3 := X3.ext hb1
  clear hb1 hB0
  go_wp2_with fail
  refine region_mov (S := fun w' => w'.cell? ⟨w.heap.size, 0, none⟩ = some (.int .i64 k0) ∧ w'.cell? ⟨w.heap.size, 1, none⟩ = some (.int .i64 n0) ∧ w'.cell? ⟨w.heap.size, 2, none⟩ = some (.slice a0 s0 c0) ∧ w'.cell? ⟨w.heap.size + 1, 0, none⟩ = some (.int .i64 k1) ∧ w'.cell? ⟨w.heap.size + 1, 1, none⟩ = some (.int .i64 n1) ∧ w'.cell? ⟨w.heap.size + 1, 2, none⟩ = some (.slice a1 s1 c1) ∧ w'.cell? ⟨w.heap.size + 1 + 1, 0, none⟩ = some (.int .i64 k2) ∧ w'.cell? ⟨w.heap.size + 1 + 1, 1, none⟩ = some (.int .i64 n2) ∧ w'.cell? ⟨w.heap.size + 1 + 1, 2, none⟩ = some (.slice a2 s2 c2) ∧ w'.cell? ⟨w.heap.size + 1 + 1 + 1, 0, none⟩ = some (.bool l3) ∧ w'.cell? ⟨w.heap.size + 1 + 1 + 1, 1, none⟩ = some (.int .i64 n3) ∧ w'.cell? ⟨w.heap.size + 1 + 1 + 1, 2, none⟩ = some (.slice a3 s3 c3)) (n := 9) (ms := [(true, 0), (true, 1), (true, 3), (false, 2), (false, 4), (true, 5), (true, 6), (true, 7), (false, 8), (false, 9)]) (hm := by kernel_rfl) (hB := by kernel_rfl) (hQ := fun c a d v w h => by cases d <;> exact h) ?_
  have HS0 : Hid ((fun w' => w'.cell? ⟨w.heap.size, 0, none⟩ = some (.int .i64 k0) ∧ w'.cell? ⟨w.heap.size, 1, none⟩ = some (.int .i64 n0) ∧ w'.cell? ⟨w.heap.size, 2, none⟩ = some (.slice a0 s0 c0) ∧ w'.cell? ⟨w.heap.size + 1, 0, none⟩ = some (.int .i64 k1) ∧ w'.cell? ⟨w.heap.size + 1, 1, none⟩ = some (.int .i64 n1) ∧ w'.cell? ⟨w.heap.size + 1, 2, none⟩ = some (.slice a1 s1 c1) ∧ w'.cell? ⟨w.heap.size + 1 + 1, 0, none⟩ = some (.int .i64 k2) ∧ w'.cell? ⟨w.heap.size + 1 + 1, 1, none⟩ = some (.int .i64 n2) ∧ w'.cell? ⟨w.heap.size + 1 + 1, 2, none⟩ = some (.slice a2 s2 c2) ∧ w'.cell? ⟨w.heap.size + 1 + 1 + 1, 0, none⟩ = some (.bool l3) ∧ w'.cell? ⟨w.heap.size + 1 + 1 + 1, 1, none⟩ = some (.int .i64 n3) ∧ w'.cell? ⟨w.heap.size + 1 + 1 + 1, 2, none⟩ = some (.slice a3 s3 c3)) W1.drew) := ⟨(X0).cell 0, (X0).cell 1, (X0).cell 2, (X1).cell 0, (X1).cell 1, (X1).cell 2, (X2).cell 0, (X2).cell 1, (X2).cell 2, (X3).cell 0, (X3).cell 1, (X3).cell 2⟩
  iterate 3
    rw [mov_take]
    simp only [List.getElem?_toArray, List.getElem?_cons_succ, List.getElem?_cons_zero]
    refine ⟨?_, .inl ⟨by rfl, ?_⟩, HS0.out, ?_⟩
    rotate_left
    · rintro w' ⟨s0, s1, s2, s3, s4, s5, s6, s7, s8, s9, s10, s11⟩
      go_simp
      rfl
    simp only [Act.put, List.setIfInBounds_toArray, List.set_cons_zero, List.set_cons_succ]
  have hBd : Below w.heap.size w W1.drew := hB1.drew
  have XD0 : Blk W1.drew w.heap.size #[.int .i64 k0, .int .i64 n0, .slice a0 s0 c0] 24 := X0
  have XD1 : Blk W1.drew (w.heap.size + 1) #[.int .i64 k1, .int .i64 n1, .slice a1 s1 c1] 24 := X1
  have XD2 : Blk W1.drew (w.heap.size + 1 + 1) #[.int .i64 k2, .int .i64 n2, .slice a2 s2 c2] 24 := X2
  have XD3 : Blk W1.drew (w.heap.size + 1 + 1 + 1) #[.bool l3, .int .i64 n3, .slice a3 s3 c3] 27 := X3
  clear X0 X1 X2 X3 HS0 hB1
  generalize W1.drew = Wd1 at *
  have X0 := XD0
  have X1 := XD1
  have X2 := XD2
  have X3 := XD3
  clear XD0 XD1 XD2 XD3
  have hS1 : w.heap.size + 4 ≤ Wd1.heap.size := by have := X3.lt; omega
  have HS : Hid (∀ W', Below (Wd1).heap.size (Wd1) W' → (fun w' => w'.cell? ⟨w.heap.size, 0, none⟩ = some (.int .i64 k0) ∧ w'.cell? ⟨w.heap.size, 1, none⟩ = some (.int .i64 n0) ∧ w'.cell? ⟨w.heap.size, 2, none⟩ = some (.slice a0 s0 c0) ∧ w'.cell? ⟨w.heap.size + 1, 0, none⟩ = some (.int .i64 k1) ∧ w'.cell? ⟨w.heap.size + 1, 1, none⟩ = some (.int .i64 n1) ∧ w'.cell? ⟨w.heap.size + 1, 2, none⟩ = some (.slice a1 s1 c1) ∧ w'.cell? ⟨w.heap.size + 1 + 1, 0, none⟩ = some (.int .i64 k2) ∧ w'.cell? ⟨w.heap.size + 1 + 1, 1, none⟩ = some (.int .i64 n2) ∧ w'.cell? ⟨w.heap.size + 1 + 1, 2, none⟩ = some (.slice a2 s2 c2) ∧ w'.cell? ⟨w.heap.size + 1 + 1 + 1, 0, none⟩ = some (.bool l3) ∧ w'.cell? ⟨w.heap.size + 1 + 1 + 1, 1, none⟩ = some (.int .i64 n3) ∧ w'.cell? ⟨w.heap.size + 1 + 1 + 1, 2, none⟩ = some (.slice a3 s3 c3)) W') := fun W' h => ⟨(X0.ext h).cell 0, (X0.ext h).cell 1, (X0.ext h).cell 2, (X1.ext h).cell 0, (X1.ext h).cell 1, (X1.ext h).cell 2, (X2.ext h).cell 0, (X2.ext h).cell 1, (X2.ext h).cell 2, (X3.ext h).cell 0, (X3.ext h).cell 1, (X3.ext h).cell 2⟩
  rw [mov_step]
  simp only [List.getElem?_toArray, List.getElem?_cons_succ, List.getElem?_cons_zero]
  go_wp2_with fail
  refine (both_any 7 _ _ _ _ _ ⟨by omega, by omega⟩ (H0.out.ext hBd) (H1.out.ext hBd)).mono ?_
  rintro e V1_0 ⟨⟨p1, rfl, hp1⟩, hb0⟩
  have hC0 : Below Wd1.heap.size Wd1 V1_0 := hb0
  have HVp1 := Lib.hid hp1
  clear hp1 hb0
  go_wp2_with fail
  refine And.intro (fun _ => HS.out _ hC0) ?_
  rw [mov_step]
  simp only [List.getElem?_toArray, List.getElem?_cons_succ, List.getElem?_cons_zero]
  go_wp2_with fail
  refine (eval_any (.mk 7 0 [x, y]) v _ _ _ (HT.out.ext (hBd.trans (hC0.mono hBd.size))) HVp1.out (H3.out.ext (hBd.trans (hC0.mono hBd.size)))).mono ?_
  rintro e W2 ⟨rfl, hb⟩
  have hD : Below Wd1.heap.size Wd1 W2 := hC0.trans (hb.mono hC0.size)
  have hB2 : Below w.heap.size w W2 := hBd.trans (hD.mono hBd.size)
  go_wp2_with fail
  refine And.intro (fun _ => HS.out _ hD) ?_
  iterate 3
    rw [mov_take]
    simp only [List.getElem?_toArray, List.getElem?_cons_succ, List.getElem?_cons_zero]
    refine ⟨?_, .inl ⟨by rfl, ?_⟩, (HS.out _ hD), ?_⟩
    rotate_left
    · rintro w' _
      go_simp
      rfl
    simp only [Act.put, List.setIfInBounds_toArray, List.set_cons_zero, List.set_cons_succ]
  rw [mov_step]
  simp only [List.getElem?_toArray, List.getElem?_cons_succ, List.getElem?_cons_zero]
  go_wp2_with fail
  refine And.intro (fun _ => HS.out _ hD) ?_
  rw [mov_step]
  simp only [List.getElem?_toArray, List.getElem?_cons_succ, List.getElem?_cons_zero]
  go_wp2_with fail
  refine And.intro (fun h => absurd h (Nat.lt_irrefl _)) ?_
  rw [wpMov]
  have X0 := X0.ext hD
  have X1 := X1.ext hD
  have X2 := X2.ext hD
  have X3 := X3.ext hD
  clear hb hD hBd HS hS1 hC0 HVp1
  go_wp2_with fail
  refine region_mov (S := fun w' => w'.cell? ⟨w.heap.size, 0, none⟩ = some (.int .i64 k0) ∧ w'.cell? ⟨w.heap.size, 1, none⟩ = some (.int .i64 n0) ∧ w'.cell? ⟨w.heap.size, 2, none⟩ = some (.slice a0 s0 c0) ∧ w'.cell? ⟨w.heap.size + 1, 0, none⟩ = some (.int .i64 k1) ∧ w'.cell? ⟨w.heap.size + 1, 1, none⟩ = some (.int .i64 n1) ∧ w'.cell? ⟨w.heap.size + 1, 2, none⟩ = some (.slice a1 s1 c1) ∧ w'.cell? ⟨w.heap.size + 1 + 1, 0, none⟩ = some (.int .i64 k2) ∧ w'.cell? ⟨w.heap.size + 1 + 1, 1, none⟩ = some (.int .i64 n2) ∧ w'.cell? ⟨w.heap.size + 1 + 1, 2, none⟩ = some (.slice a2 s2 c2) ∧ w'.cell? ⟨w.heap.size + 1 + 1 + 1, 0, none⟩ = some (.bool l3) ∧ w'.cell? ⟨w.heap.size + 1 + 1 + 1, 1, none⟩ = some (.int .i64 n3) ∧ w'.cell? ⟨w.heap.size + 1 + 1 + 1, 2, none⟩ = some (.slice a3 s3 c3)) (n := 9) (ms := [(true, 0), (true, 1), (true, 3), (false, 2), (false, 4), (true, 5), (true, 6), (true, 7), (false, 8), (false, 9)]) (hm := by kernel_rfl) (hB := by kernel_rfl) (hQ := fun c a d v w h => by cases d <;> exact h) ?_
  have HS0 : Hid ((fun w' => w'.cell? ⟨w.heap.size, 0, none⟩ = some (.int .i64 k0) ∧ w'.cell? ⟨w.heap.size, 1, none⟩ = some (.int .i64 n0) ∧ w'.cell? ⟨w.heap.size, 2, none⟩ = some (.slice a0 s0 c0) ∧ w'.cell? ⟨w.heap.size + 1, 0, none⟩ = some (.int .i64 k1) ∧ w'.cell? ⟨w.heap.size + 1, 1, none⟩ = some (.int .i64 n1) ∧ w'.cell? ⟨w.heap.size + 1, 2, none⟩ = some (.slice a1 s1 c1) ∧ w'.cell? ⟨w.heap.size + 1 + 1, 0, none⟩ = some (.int .i64 k2) ∧ w'.cell? ⟨w.heap.size + 1 + 1, 1, none⟩ = some (.int .i64 n2) ∧ w'.cell? ⟨w.heap.size + 1 + 1, 2, none⟩ = some (.slice a2 s2 c2) ∧ w'.cell? ⟨w.heap.size + 1 + 1 + 1, 0, none⟩ = some (.bool l3) ∧ w'.cell? ⟨w.heap.size + 1 + 1 + 1, 1, none⟩ = some (.int .i64 n3) ∧ w'.cell? ⟨w.heap.size + 1 + 1 + 1, 2, none⟩ = some (.slice a3 s3 c3)) W2.drew) := ⟨(X0).cell 0, (X0).cell 1, (X0).cell 2, (X1).cell 0, (X1).cell 1, (X1).cell 2, (X2).cell 0, (X2).cell 1, (X2).cell 2, (X3).cell 0, (X3).cell 1, (X3).cell 2⟩
  iterate 3
    rw [mov_take]
    simp only [List.getElem?_toArray, List.getElem?_cons_succ, List.getElem?_cons_zero]
    refine ⟨?_, .inl ⟨by rfl, ?_⟩, HS0.out, ?_⟩
    rotate_left
    · rintro w' ⟨s0, s1, s2, s3, s4, s5, s6, s7, s8, s9, s10, s11⟩
      go_simp
      rfl
    simp only [Act.put, List.setIfInBounds_toArray, List.set_cons_zero, List.set_cons_succ]
  have hBd : Below w.heap.size w W2.drew := hB2.drew
  have XD0 : Blk W2.drew w.heap.size #[.int .i64 k0, .int .i64 n0, .slice a0 s0 c0] 24 := X0
  have XD1 : Blk W2.drew (w.heap.size + 1) #[.int .i64 k1, .int .i64 n1, .slice a1 s1 c1] 24 := X1
  have XD2 : Blk W2.drew (w.heap.size + 1 + 1) #[.int .i64 k2, .int .i64 n2, .slice a2 s2 c2] 24 := X2
  have XD3 : Blk W2.drew (w.heap.size + 1 + 1 + 1) #[.bool l3, .int .i64 n3, .slice a3 s3 c3] 27 := X3
  clear X0 X1 X2 X3 HS0 hB2
  generalize W2.drew = Wd2 at *
  have X0 := XD0
  have X1 := XD1
  have X2 := XD2
  have X3 := XD3
  clear XD0 XD1 XD2 XD3
  have hS1 : w.heap.size + 4 ≤ Wd2.heap.size := by have := X3.lt; omega
  have HS : Hid (∀ W', Below (Wd2).heap.size (Wd2) W' → (fun w' => w'.cell? ⟨w.heap.size, 0, none⟩ = some (.int .i64 k0) ∧ w'.cell? ⟨w.heap.size, 1, none⟩ = some (.int .i64 n0) ∧ w'.cell? ⟨w.heap.size, 2, none⟩ = some (.slice a0 s0 c0) ∧ w'.cell? ⟨w.heap.size + 1, 0, none⟩ = some (.int .i64 k1) ∧ w'.cell? ⟨w.heap.size + 1, 1, none⟩ = some (.int .i64 n1) ∧ w'.cell? ⟨w.heap.size + 1, 2, none⟩ = some (.slice a1 s1 c1) ∧ w'.cell? ⟨w.heap.size + 1 + 1, 0, none⟩ = some (.int .i64 k2) ∧ w'.cell? ⟨w.heap.size + 1 + 1, 1, none⟩ = some (.int .i64 n2) ∧ w'.cell? ⟨w.heap.size + 1 + 1, 2, none⟩ = some (.slice a2 s2 c2) ∧ w'.cell? ⟨w.heap.size + 1 + 1 + 1, 0, none⟩ = some (.bool l3) ∧ w'.cell? ⟨w.heap.size + 1 + 1 + 1, 1, none⟩ = some (.int .i64 n3) ∧ w'.cell? ⟨w.heap.size + 1 + 1 + 1, 2, none⟩ = some (.slice a3 s3 c3)) W') := fun W' h => ⟨(X0.ext h).cell 0, (X0.ext h).cell 1, (X0.ext h).cell 2, (X1.ext h).cell 0, (X1.ext h).cell 1, (X1.ext h).cell 2, (X2.ext h).cell 0, (X2.ext h).cell 1, (X2.ext h).cell 2, (X3.ext h).cell 0, (X3.ext h).cell 1, (X3.ext h).cell 2⟩
  rw [mov_step]
  simp only [List.getElem?_toArray, List.getElem?_cons_succ, List.getElem?_cons_zero]
  go_wp2_with fail
  refine (both_any 7 _ _ _ _ _ ⟨by omega, by omega⟩ (H1.out.ext hBd) (H0.out.ext hBd)).mono ?_
  rintro e V2_0 ⟨⟨p2, rfl, hp2⟩, hb0⟩
  have hC0 : Below Wd2.heap.size Wd2 V2_0 := hb0
  have HVp2 := Lib.hid hp2
  clear hp2 hb0
  go_wp2_with fail
  refine And.intro (fun _ => HS.out _ hC0) ?_
  rw [mov_step]
  simp only [List.getElem?_toArray, List.getElem?_cons_succ, List.getElem?_cons_zero]
  go_wp2_with fail
  refine (eval_any (.mk 7 0 [y, x]) v _ _ _ (HT.out.ext (hBd.trans (hC0.mono hBd.size))) HVp2.out (H3.out.ext (hBd.trans (hC0.mono hBd.size)))).mono ?_
  rintro e W3 ⟨rfl, hb⟩
  have hD : Below Wd2.heap.size Wd2 W3 := hC0.trans (hb.mono hC0.size)
  have hB3 : Below w.heap.size w W3 := hBd.trans (hD.mono hBd.size)
  go_wp2_with fail
  refine And.intro (fun _ => HS.out _ hD) ?_
  iterate 3
    rw [mov_take]
    simp only [List.getElem?_toArray, List.getElem?_cons_succ, List.getElem?_cons_zero]
    refine ⟨?_, .inl ⟨by rfl, ?_⟩, (HS.out _ hD), ?_⟩
    rotate_left
    · rintro w' _
      go_simp
      rfl
    simp only [Act.put, List.setIfInBounds_toArray, List.set_cons_zero, List.set_cons_succ]
  rw [mov_step]
  simp only [List.getElem?_toArray, List.getElem?_cons_succ, List.getElem?_cons_zero]
  go_wp2_with fail
  refine And.intro (fun _ => HS.out _ hD) ?_
  rw [mov_step]
  simp only [List.getElem?_toArray, List.getElem?_cons_succ, List.getElem?_cons_zero]
  go_wp2_with fail
  refine And.intro (fun h => absurd h (Nat.lt_irrefl _)) ?_
  rw [wpMov]
  have X0 := X0.ext hD
  have X1 := X1.ext hD
  have X2 := X2.ext hD
  have X3 := X3.ext hD
  clear hb hD hBd HS hS1 hC0 HVp2
  go_wp2_with fail
  refine region_mov (S := fun w' => w'.cell? ⟨w.heap.size, 0, none⟩ = some (.int .i64 k0) ∧ w'.cell? ⟨w.heap.size, 1, none⟩ = some (.int .i64 n0) ∧ w'.cell? ⟨w.heap.size, 2, none⟩ = some (.slice a0 s0 c0) ∧ w'.cell? ⟨w.heap.size + 1, 0, none⟩ = some (.int .i64 k1) ∧ w'.cell? ⟨w.heap.size + 1, 1, none⟩ = some (.int .i64 n1) ∧ w'.cell? ⟨w.heap.size + 1, 2, none⟩ = some (.slice a1 s1 c1) ∧ w'.cell? ⟨w.heap.size + 1 + 1, 0, none⟩ = some (.int .i64 k2) ∧ w'.cell? ⟨w.heap.size + 1 + 1, 1, none⟩ = some (.int .i64 n2) ∧ w'.cell? ⟨w.heap.size + 1 + 1, 2, none⟩ = some (.slice a2 s2 c2) ∧ w'.cell? ⟨w.heap.size + 1 + 1 + 1, 0, none⟩ = some (.bool l3) ∧ w'.cell? ⟨w.heap.size + 1 + 1 + 1, 1, none⟩ = some (.int .i64 n3) ∧ w'.cell? ⟨w.heap.size + 1 + 1 + 1, 2, none⟩ = some (.slice a3 s3 c3)) (n := 9) (ms := [(true, 0), (true, 1), (true, 3), (false, 2), (false, 4), (true, 5), (true, 6), (true, 7), (false, 8), (false, 9)]) (hm := by kernel_rfl) (hB := by kernel_rfl) (hQ := fun c a d v w h => by cases d <;> exact h) ?_
  have HS0 : Hid ((fun w' => w'.cell? ⟨w.heap.size, 0, none⟩ = some (.int .i64 k0) ∧ w'.cell? ⟨w.heap.size, 1, none⟩ = some (.int .i64 n0) ∧ w'.cell? ⟨w.heap.size, 2, none⟩ = some (.slice a0 s0 c0) ∧ w'.cell? ⟨w.heap.size + 1, 0, none⟩ = some (.int .i64 k1) ∧ w'.cell? ⟨w.heap.size + 1, 1, none⟩ = some (.int .i64 n1) ∧ w'.cell? ⟨w.heap.size + 1, 2, none⟩ = some (.slice a1 s1 c1) ∧ w'.cell? ⟨w.heap.size + 1 + 1, 0, none⟩ = some (.int .i64 k2) ∧ w'.cell? ⟨w.heap.size + 1 + 1, 1, none⟩ = some (.int .i64 n2) ∧ w'.cell? ⟨w.heap.size + 1 + 1, 2, none⟩ = some (.slice a2 s2 c2) ∧ w'.cell? ⟨w.heap.size + 1 + 1 + 1, 0, none⟩ = some (.bool l3) ∧ w'.cell? ⟨w.heap.size + 1 + 1 + 1, 1, none⟩ = some (.int .i64 n3) ∧ w'.cell? ⟨w.heap.size + 1 + 1 + 1, 2, none⟩ = some (.slice a3 s3 c3)) W3.drew) := ⟨(X0).cell 0, (X0).cell 1, (X0).cell 2, (X1).cell 0, (X1).cell 1, (X1).cell 2, (X2).cell 0, (X2).cell 1, (X2).cell 2, (X3).cell 0, (X3).cell 1, (X3).cell 2⟩
  iterate 3
    rw [mov_take]
    simp only [List.getElem?_toArray, List.getElem?_cons_succ, List.getElem?_cons_zero]
    refine ⟨?_, .inl ⟨by rfl, ?_⟩, HS0.out, ?_⟩
    rotate_left
    · rintro w' ⟨s0, s1, s2, s3, s4, s5, s6, s7, s8, s9, s10, s11⟩
      go_simp
      rfl
    simp only [Act.put, List.setIfInBounds_toArray, List.set_cons_zero, List.set_cons_succ]
  have hBd : Below w.heap.size w W3.drew := hB3.drew
  have XD0 : Blk W3.drew w.heap.size #[.int .i64 k0, .int .i64 n0, .slice a0 s0 c0] 24 := X0
  have XD1 : Blk W3.drew (w.heap.size + 1) #[.int .i64 k1, .int .i64 n1, .slice a1 s1 c1] 24 := X1
  have XD2 : Blk W3.drew (w.heap.size + 1 + 1) #[.int .i64 k2, .int .i64 n2, .slice a2 s2 c2] 24 := X2
  have XD3 : Blk W3.drew (w.heap.size + 1 + 1 + 1) #[.bool l3, .int .i64 n3, .slice a3 s3 c3] 27 := X3
  clear X0 X1 X2 X3 HS0 hB3
  generalize W3.drew = Wd3 at *
  have X0 := XD0
  have X1 := XD1
  have X2 := XD2
  have X3 := XD3
  clear XD0 XD1 XD2 XD3
  have hS1 : w.heap.size + 4 ≤ Wd3.heap.size := by have := X3.lt; omega
  have HS : Hid (∀ W', Below (Wd3).heap.size (Wd3) W' → (fun w' => w'.cell? ⟨w.heap.size, 0, none⟩ = some (.int .i64 k0) ∧ w'.cell? ⟨w.heap.size, 1, none⟩ = some (.int .i64 n0) ∧ w'.cell? ⟨w.heap.size, 2, none⟩ = some (.slice a0 s0 c0) ∧ w'.cell? ⟨w.heap.size + 1, 0, none⟩ = some (.int .i64 k1) ∧ w'.cell? ⟨w.heap.size + 1, 1, none⟩ = some (.int .i64 n1) ∧ w'.cell? ⟨w.heap.size + 1, 2, none⟩ = some (.slice a1 s1 c1) ∧ w'.cell? ⟨w.heap.size + 1 + 1, 0, none⟩ = some (.int .i64 k2) ∧ w'.cell? ⟨w.heap.size + 1 + 1, 1, none⟩ = some (.int .i64 n2) ∧ w'.cell? ⟨w.heap.size + 1 + 1, 2, none⟩ = some (.slice a2 s2 c2) ∧ w'.cell? ⟨w.heap.size + 1 + 1 + 1, 0, none⟩ = some (.bool l3) ∧ w'.cell? ⟨w.heap.size + 1 + 1 + 1, 1, none⟩ = some (.int .i64 n3) ∧ w'.cell? ⟨w.heap.size + 1 + 1 + 1, 2, none⟩ = some (.slice a3 s3 c3)) W') := fun W' h => ⟨(X0.ext h).cell 0, (X0.ext h).cell 1, (X0.ext h).cell 2, (X1.ext h).cell 0, (X1.ext h).cell 1, (X1.ext h).cell 2, (X2.ext h).cell 0, (X2.ext h).cell 1, (X2.ext h).cell 2, (X3.ext h).cell 0, (X3.ext h).cell 1, (X3.ext h).cell 2⟩
  rw [mov_step]
  simp only [List.getElem?_toArray, List.getElem?_cons_succ, List.getElem?_cons_zero]
  go_wp2_with fail
  refine (both_any 8 _ _ _ _ _ ⟨by omega, by omega⟩ (H0.out.ext hBd) (H1.out.ext hBd)).mono ?_
  rintro e V3_0 ⟨⟨p3, rfl, hp3⟩, hb0⟩
  have hC0 : Below Wd3.heap.size Wd3 V3_0 := hb0
  have HVp3 := Lib.hid hp3
  clear hp3 hb0
  go_wp2_with fail
  refine And.intro (fun _ => HS.out _ hC0) ?_
  rw [mov_step]
  simp only [List.getElem?_toArray, List.getElem?_cons_succ, List.getElem?_cons_zero]
  go_wp2_with fail
  refine (eval_any (.mk 8 0 [x, y]) v _ _ _ (HT.out.ext (hBd.trans (hC0.mono hBd.size))) HVp3.out (H3.out.ext (hBd.trans (hC0.mono hBd.size)))).mono ?_
  rintro e W4 ⟨rfl, hb⟩
  have hD : Below Wd3.heap.size Wd3 W4 := hC0.trans (hb.mono hC0.size)
  have hB4 : Below w.heap.size w W4 := hBd.trans (hD.mono hBd.size)
  go_wp2_with fail
  refine And.intro (fun _ => HS.out _ hD) ?_
  iterate 3
    rw [mov_take]
    simp only [List.getElem?_toArray, List.getElem?_cons_succ, List.getElem?_cons_zero]
    refine ⟨?_, .inl ⟨by rfl, ?_⟩, (HS.out _ hD), ?_⟩
    rotate_left
    · rintro w' _
      go_simp
      rfl
    simp only [Act.put, List.setIfInBounds_toArray, List.set_cons_zero, List.set_cons_succ]
  rw [mov_step]
  simp only [List.getElem?_toArray, List.getElem?_cons_succ, List.getElem?_cons_zero]
  go_wp2_with fail
  refine And.intro (fun _ => HS.out _ hD) ?_
  rw [mov_step]
  simp only [List.getElem?_toArray, List.getElem?_cons_succ, List.getElem?_cons_zero]
  go_wp2_with fail
  refine And.intro (fun h => absurd h (Nat.lt_irrefl _)) ?_
  rw [wpMov]
  have X0 := X0.ext hD
  have X1 := X1.ext hD
  have X2 := X2.ext hD
  have X3 := X3.ext hD
  clear hb hD hBd HS hS1 hC0 HVp3
  go_wp2_with fail
  refine region_mov (S := fun w' => w'.cell? ⟨w.heap.size, 0, none⟩ = some (.int .i64 k0) ∧ w'.cell? ⟨w.heap.size, 1, none⟩ = some (.int .i64 n0) ∧ w'.cell? ⟨w.heap.size, 2, none⟩ = some (.slice a0 s0 c0) ∧ w'.cell? ⟨w.heap.size + 1, 0, none⟩ = some (.int .i64 k1) ∧ w'.cell? ⟨w.heap.size + 1, 1, none⟩ = some (.int .i64 n1) ∧ w'.cell? ⟨w.heap.size + 1, 2, none⟩ = some (.slice a1 s1 c1) ∧ w'.cell? ⟨w.heap.size + 1 + 1, 0, none⟩ = some (.int .i64 k2) ∧ w'.cell? ⟨w.heap.size + 1 + 1, 1, none⟩ = some (.int .i64 n2) ∧ w'.cell? ⟨w.heap.size + 1 + 1, 2, none⟩ = some (.slice a2 s2 c2) ∧ w'.cell? ⟨w.heap.size + 1 + 1 + 1, 0, none⟩ = some (.bool l3) ∧ w'.cell? ⟨w.heap.size + 1 + 1 + 1, 1, none⟩ = some (.int .i64 n3) ∧ w'.cell? ⟨w.heap.size + 1 + 1 + 1, 2, none⟩ = some (.slice a3 s3 c3)) (n := 13) (ms := [(true, 0), (true, 1), (true, 3), (true, 4), (true, 7), (false, 2), (false, 5), (false, 6), (false, 8), (true, 9), (true, 10), (true, 11), (false, 12), (false, 13)]) (hm := by kernel_rfl) (hB := by kernel_rfl) (hQ := fun c a d v w h => by cases d <;> exact h) ?_
  have HS0 : Hid ((fun w' => w'.cell? ⟨w.heap.size, 0, none⟩ = some (.int .i64 k0) ∧ w'.cell? ⟨w.heap.size, 1, none⟩ = some (.int .i64 n0) ∧ w'.cell? ⟨w.heap.size, 2, none⟩ = some (.slice a0 s0 c0) ∧ w'.cell? ⟨w.heap.size + 1, 0, none⟩ = some (.int .i64 k1) ∧ w'.cell? ⟨w.heap.size + 1, 1, none⟩ = some (.int .i64 n1) ∧ w'.cell? ⟨w.heap.size + 1, 2, none⟩ = some (.slice a1 s1 c1) ∧ w'.cell? ⟨w.heap.size + 1 + 1, 0, none⟩ = some (.int .i64 k2) ∧ w'.cell? ⟨w.heap.size + 1 + 1, 1, none⟩ = some (.int .i64 n2) ∧ w'.cell? ⟨w.heap.size + 1 + 1, 2, none⟩ = some (.slice a2 s2 c2) ∧ w'.cell? ⟨w.heap.size + 1 + 1 + 1, 0, none⟩ = some (.bool l3) ∧ w'.cell? ⟨w.heap.size + 1 + 1 + 1, 1, none⟩ = some (.int .i64 n3) ∧ w'.cell? ⟨w.heap.size + 1 + 1 + 1, 2, none⟩ = some (.slice a3 s3 c3)) W4.drew) := ⟨(X0).cell 0, (X0).cell 1, (X0).cell 2, (X1).cell 0, (X1).cell 1, (X1).cell 2, (X2).cell 0, (X2).cell 1, (X2).cell 2, (X3).cell 0, (X3).cell 1, (X3).cell 2⟩
  iterate 5
    rw [mov_take]
    simp only [List.getElem?_toArray, List.getElem?_cons_succ, List.getElem?_cons_zero]
    refine ⟨?_, .inl ⟨by rfl, ?_⟩, HS0.out, ?_⟩
    rotate_left
    · rintro w' ⟨s0, s1, s2, s3, s4, s5, s6, s7, s8, s9, s10, s11⟩
      go_simp
      rfl
    simp only [Act.put, List.setIfInBounds_toArray, List.set_cons_zero, List.set_cons_succ]
  have hBd : Below w.heap.size w W4.drew := hB4.drew
  have XD0 : Blk W4.drew w.heap.size #[.int .i64 k0, .int .i64 n0, .slice a0 s0 c0] 24 := X0
  have XD1 : Blk W4.drew (w.heap.size + 1) #[.int .i64 k1, .int .i64 n1, .slice a1 s1 c1] 24 := X1
  have XD2 : Blk W4.drew (w.heap.size + 1 + 1) #[.int .i64 k2, .int .i64 n2, .slice a2 s2 c2] 24 := X2
  have XD3 : Blk W4.drew (w.heap.size + 1 + 1 + 1) #[.bool l3, .int .i64 n3, .slice a3 s3 c3] 27 := X3
  clear X0 X1 X2 X3 HS0 hB4
  generalize W4.drew = Wd4 at *
  have X0 := XD0
  have X1 := XD1
  have X2 := XD2
  have X3 := XD3
  clear XD0 XD1 XD2 XD3
  have hS1 : w.heap.size + 4 ≤ Wd4.heap.size := by have := X3.lt; omega
  have HS : Hid (∀ W', Below (Wd4).heap.size (Wd4) W' → (fun w' => w'.cell? ⟨w.heap.size, 0, none⟩ = some (.int .i64 k0) ∧ w'.cell? ⟨w.heap.size, 1, none⟩ = some (.int .i64 n0) ∧ w'.cell? ⟨w.heap.size, 2, none⟩ = some (.slice a0 s0 c0) ∧ w'.cell? ⟨w.heap.size + 1, 0, none⟩ = some (.int .i64 k1) ∧ w'.cell? ⟨w.heap.size + 1, 1, none⟩ = some (.int .i64 n1) ∧ w'.cell? ⟨w.heap.size + 1, 2, none⟩ = some (.slice a1 s1 c1) ∧ w'.cell? ⟨w.heap.size + 1 + 1, 0, none⟩ = some (.int .i64 k2) ∧ w'.cell? ⟨w.heap.size + 1 + 1, 1, none⟩ = some (.int .i64 n2) ∧ w'.cell? ⟨w.heap.size + 1 + 1, 2, none⟩ = some (.slice a2 s2 c2) ∧ w'.cell? ⟨w.heap.size + 1 + 1 + 1, 0, none⟩ = some (.bool l3) ∧ w'.cell? ⟨w.heap.size + 1 + 1 + 1, 1, none⟩ = some (.int .i64 n3) ∧ w'.cell? ⟨w.heap.size + 1 + 1 + 1, 2, none⟩ = some (.slice a3 s3 c3)) W') := fun W' h => ⟨(X0.ext h).cell 0, (X0.ext h).cell 1, (X0.ext h).cell 2, (X1.ext h).cell 0, (X1.ext h).cell 1, (X1.ext h).cell 2, (X2.ext h).cell 0, (X2.ext h).cell 1, (X2.ext h).cell 2, (X3.ext h).cell 0, (X3.ext h).cell 1, (X3.ext h).cell 2⟩
  rw [mov_step]
  simp only [List.getElem?_toArray, List.getElem?_cons_succ, List.getElem?_cons_zero]
  go_wp2_with fail
  refine (both_any 5 _ _ _ _ _ ⟨by omega, by omega⟩ (H0.out.ext hBd) (H2.out.ext hBd)).mono ?_
  rintro e V4_0 ⟨⟨p4, rfl, hp4⟩, hb0⟩
  have hC0 : Below Wd4.heap.size Wd4 V4_0 := hb0
  have HVp4 := Lib.hid hp4
  clear hp4 hb0
  go_wp2_with fail
  refine And.intro (fun _ => HS.out _ hC0) ?_
  rw [mov_step]
  simp only [List.getElem?_toArray, List.getElem?_cons_succ, List.getElem?_cons_zero]
  go_wp2_with fail
  refine (both_any 5 _ _ _ _ _ ⟨by omega, by omega⟩ (H1.out.ext (hBd.trans (hC0.mono hBd.size))) (H2.out.ext (hBd.trans (hC0.mono hBd.size)))).mono ?_
  rintro e V4_1 ⟨⟨p5, rfl, hp5⟩, hb1⟩
  have hC1 : Below Wd4.heap.size Wd4 V4_1 := hC0.trans (hb1.mono hC0.size)
  have HVp5 := Lib.hid hp5
  have HVq4 := Lib.hid (HVp4.out.ext hb1)
  clear hp5 hb1
  go_wp2_with fail
  refine And.intro (fun _ => HS.out _ hC1) ?_
  rw [mov_step]
  simp only [List.getElem?_toArray, List.getElem?_cons_succ, List.getElem?_cons_zero]
  go_wp2_with fail
  refine (both_any 8 _ _ _ _ _ ⟨by omega, by omega⟩ HVq4.out HVp5.out).mono ?_
  rintro e V4_2 ⟨⟨p6, rfl, hp6⟩, hb2⟩
  have hC2 : Below Wd4.heap.size Wd4 V4_2 := hC1.trans (hb2.mono hC1.size)
  have HVp6 := Lib.hid hp6
  clear hp6 hb2
  go_wp2_with fail
  refine And.intro (fun _ => HS.out _ hC2) ?_
  rw [mov_step]
  simp only [List.getElem?_toArray, List.getElem?_cons_succ, List.getElem?_cons_zero]
  go_wp2_with fail
  refine (eval_any (.mk 8 0 [.mk 5 0 [x, z], .mk 5 0 [y, z]]) v _ _ _ (HT.out.ext (hBd.trans (hC2.mono hBd.size))) HVp6.out (H3.out.ext (hBd.trans (hC2.mono hBd.size)))).mono ?_
  rintro e W5 ⟨rfl, hb⟩
  have hD : Below Wd4.heap.size Wd4 W5 := hC2.trans (hb.mono hC2.size)
  have hB5 : Below w.heap.size w W5 := hBd.trans (hD.mono hBd.size)
  go_wp2_with fail
  refine And.intro (fun _ => HS.out _ hD) ?_
  iterate 3
    rw [mov_take]
    simp only [List.getElem?_toArray, List.getElem?_cons_succ, List.getElem?_cons_zero]
    refine ⟨?_, .inl ⟨by rfl, ?_⟩, (HS.out _ hD), ?_⟩
    rotate_left
    · rintro w' _
      go_simp
      rfl
    simp only [Act.put, List.setIfInBounds_toArray, List.set_cons_zero, List.set_cons_succ]
  rw [mov_step]
  simp only [List.getElem?_toArray, List.getElem?_cons_succ, List.getElem?_cons_zero]
  go_wp2_with fail
  refine And.intro (fun _ => HS.out _ hD) ?_
  rw [mov_step]
  simp only [List.getElem?_toArray, List.getElem?_cons_succ, List.getElem?_cons_zero]
  go_wp2_with fail
  refine And.intro (fun h => absurd h (Nat.lt_irrefl _)) ?_
  rw [wpMov]
  have X0 := X0.ext hD
  have X1 := X1.ext hD
  have X2 := X2.ext hD
  have X3 := X3.ext hD
  clear hb hD hBd HS hS1 HVq4 hC0 HVp4 hC1 HVp5 hC2 HVp6
  have HL := Lib.hid (fun h1 h2 h3 => ET.less_law x y z v 0 0 0 0 0 0 H0.out.fit H1.out.fit H3.out.fit h1 h2 h3)
  clear X0 X1 X2 X3 HT H0 H1 H2 H3
  generalize ET.evalR (.mk 7 0 [x, y]) v = E1 at *
  generalize ET.evalR (.mk 7 0 [y, x]) v = E2 at *
  generalize ET.evalR (.mk 8 0 [x, y]) v = E3 at *
  generalize ET.evalR (.mk 8 0 [.mk 5 0 [x, z], .mk 5 0 [y, z]]) v = E4 at *
  obtain ⟨a, e1⟩ := E1
  obtain ⟨b, e2⟩ := E2
  obtain ⟨c, e3⟩ := E3
  obtain ⟨d, e4⟩ := E4
  dsimp only at HL ⊢
  by_cases h1 : e1 = 0
  case neg =>
    rw [errV_ne h1]
    clear h1 HL
    go_wp2_with fail
    go_ret
    exact ⟨rfl, hB5⟩
  subst h1
  by_cases h2 : e2 = 0
  case neg =>
    rw [errV_ne h2, errV_zero]
    clear h2 HL
    go_wp2_with fail
    go_ret
    exact ⟨rfl, hB5⟩
  subst h2
  by_cases h3 : e3 = 0
  case neg =>
    rw [errV_ne h3, errV_zero]
    clear h3 HL
    go_wp2_with fail
    go_ret
    exact ⟨rfl, hB5⟩
  subst h3
  obtain ⟨q1, q2, q3, q4, q5, q6, q7, q8⟩ := HL.out rfl rfl rfl
  clear HL
  by_cases h4 : e4 = 0
  · subst h4
    obtain rfl := q8 rfl
    rw [errV_zero]
    have hc : (a = 1 ∧ b = 0 ∧ d = 0) ∨ (a = 0 ∧ b = 1 ∧ d = 0) ∨ (a = 0 ∧ b = 0 ∧ d = 1) := by omega
    clear q1 q2 q3 q4 q5 q6 q7 q8
    rcases hc with ⟨rfl, rfl, rfl⟩ | ⟨rfl, rfl, rfl⟩ | ⟨rfl, rfl, rfl⟩ <;>
    · go_wp2_with fail
      go_ret
      exact ⟨rfl, hB5⟩
  · rw [errV_ne h4, errV_zero]
    have hc : (a = 1 ∧ b = 0 ∧ c = 0) ∨ (a = 0 ∧ b = 1 ∧ c = 0) ∨ (a = 0 ∧ b = 0 ∧ c = 1) := by omega
    clear q1 q2 q3 q4 q5 q6 q7 q8 h4
    rcases hc with ⟨rfl, rfl, rfl⟩ | ⟨rfl, rfl, rfl⟩ | ⟨rfl, rfl, rfl⟩ <;>
    · go_wp2_with fail
      go_ret
      exact ⟨rfl, hB5⟩
end Go.Proofs.YtcecpggkeaohnaaDoor
