/- The walk through the statement ExprMorgan. -/
import Derived.Test.YtcecpggkeaohnaaDoorEX7
import Derived.Test.YtcecpggkeaohnaaDoorRegm
namespace Go.Proofs.YtcecpggkeaohnaaDoor
set_option maxRecDepth 100000
open Go.RowKit
set_option linter.unusedSimpArgs false
set_option linter.unusedVariables false
set_option maxRecDepth 100000 in
set_option maxHeartbeats 8000000 in
theorem exprMorgan_go {v0 v1 v3 : Value} (w : World) (hT : TakesAt w) (x : ET) (o0 : ExprAt w v0 x) (y : ET) (o1 : ExprAt w v1 y) (v : VT) (o3 : ValAt w v3 v) :
    Calls Tryd.prog 4 #[v0, v1, v3] w fun e w' => e = .returned (.bool true) ∧ Below w.heap.size w w' := by
  have HT := Lib.hid hT
  have H0 := Lib.hid o0
  have H1 := Lib.hid o1
  have H3 := Lib.hid o3
  obtain ⟨k0, n0, s0, a0, c0, rfl⟩ := o0.shape
  obtain ⟨k1, n1, s1, a1, c1, rfl⟩ := o1.shape
  obtain ⟨l3, n3, s3, a3, c3, rfl⟩ := o3.shape
  clear hT o0 o1 o3
  go_enter Tryd.func4, Tryd.ntmps4
  go_wp2_with fail
  generalize hW0 : (((w.alloc (.cells #[.int .i64 k0, .int .i64 n0, .slice a0 s0 c0] 24)).alloc (.cells #[.int .i64 k1, .int .i64 n1, .slice a1 s1 c1] 24)).alloc (.cells #[.bool l3, .int .i64 n3, .slice a3 s3 c3] 27)) = W0
  have hB0 : Below w.heap.size w W0 := by rw [← hW0]; repeat (first | with_reducible assumption | with_reducible exact Below.refl _ _ | with_reducible apply Below.drew | (with_reducible refine Below.alloc ?_ (by first | omega | (simp only [World.size_alloc, size_setCell, size_drew, size_drewN]; omega) | (dsimp only; omega) | (simp only [World.size_alloc, size_setCell, size_drew, size_drewN]; dsimp only; omega)) _) | (with_reducible refine Below.setCell ?_ (by first | omega | (simp only [World.size_alloc, size_setCell, size_drew, size_drewN]; omega) | (dsimp only; omega) | (simp only [World.size_alloc, size_setCell, size_drew, size_drewN]; dsimp only; omega)) _) | (with_reducible apply below_drewN))
  have X0 : Blk W0 (w.heap.size) #[.int .i64 k0, .int .i64 n0, .slice a0 s0 c0] 24 := by rw [← hW0]; exact (((Blk.new w #[.int .i64 k0, .int .i64 n0, .slice a0 s0 c0] 24)).alloc _).alloc _
  have X1 : Blk W0 (w.heap.size + 1) #[.int .i64 k1, .int .i64 n1, .slice a1 s1 c1] 24 := by rw [← hW0]; exact ((show Blk ((w.alloc (.cells #[.int .i64 k0, .int .i64 n0, .slice a0 s0 c0] 24)).alloc (.cells #[.int .i64 k1, .int .i64 n1, .slice a1 s1 c1] 24)) (w.heap.size + 1) _ _ by simpa using Blk.new (w.alloc (.cells #[.int .i64 k0, .int .i64 n0, .slice a0 s0 c0] 24)) #[.int .i64 k1, .int .i64 n1, .slice a1 s1 c1] 24)).alloc _
  have X3 : Blk W0 (w.heap.size + 1 + 1) #[.bool l3, .int .i64 n3, .slice a3 s3 c3] 27 := by rw [← hW0]; exact (show Blk (((w.alloc (.cells #[.int .i64 k0, .int .i64 n0, .slice a0 s0 c0] 24)).alloc (.cells #[.int .i64 k1, .int .i64 n1, .slice a1 s1 c1] 24)).alloc (.cells #[.bool l3, .int .i64 n3, .slice a3 s3 c3] 27)) (w.heap.size + 1 + 1) _ _ by simpa using Blk.new ((w.alloc (.cells #[.int .i64 k0, .int .i64 n0, .slice a0 s0 c0] 24)).alloc (.cells #[.int .i64 k1, .int .i64 n1, .slice a1 s1 c1] 24)) #[.bool l3, .int .i64 n3, .slice a3 s3 c3] 27)
  clear hW0
  refine (asked_fact _ (HT.out.ext hB0)).mono ?_
  rintro e W1 ⟨rfl, hb⟩
  have hB1 : Below w.heap.size w W1 := hB0.trans (hb.mono hB0.size)
  have X0 := X0.ext hb
  have X1 := X1.ext hb
  have X3 := X3.ext hb
  clear hb hB0
  have f0_0 := X0.cell 0
  have f0_1 := X0.cell 1
  have f0_2 := X0.cell 2
  simp only [List.getElem?_toArray, List.getElem?_cons_succ, List.getElem?_cons_zero] at f0_0 f0_1 f0_2
  have f1_0 := X3.cell 0
  have f1_1 := X3.cell 1
  have f1_2 := X3.cell 2
  simp only [List.getElem?_toArray, List.getElem?_cons_succ, List.getElem?_cons_zero] at f1_0 f1_1 f1_2
  go_wp2_with fail
  refine (eval_any x v _ _ _ (HT.out.ext hB1) (H0.out.ext hB1) (H3.out.ext hB1)).mono ?_
  rintro e W2 ⟨rfl, hb⟩
  clear f0_0 f0_1 f0_2 f1_0 f1_1 f1_2
  have hB2 : Below w.heap.size w W2 := hB1.trans (hb.mono hB1.size)
  have X0 := X0.ext hb
  have X1 := X1.ext hb
  have X3 := X3.ext hb
  clear hb hB1
  have f0_0 := X1.cell 0
  have f0_1 := X1.cell 1
  have f0_2 := X1.cell 2
  simp only [List.getElem?_toArray, List.getElem?_cons_succ, List.getElem?_cons_zero] at f0_0 f0_1 f0_2
  have f1_0 := X3.cell 0
  have f1_1 := X3.cell 1
  have f1_2 := X3.cell 2
  simp only [List.getElem?_toArray, List.getElem?_cons_succ, List.getElem?_cons_zero] at f1_0 f1_1 f1_2
  go_wp2_with fail
  refine (eval_any y v _ _ _ (HT.out.ext hB2) (H1.out.ext hB2) (H3.out.ext hB2)).mono ?_
  rintro e W3 ⟨rfl, hb⟩
  clear f0_0 f0_1 f0_2 f1_0 f1_1 f1_2
  have hB3 : Below w.heap.size w W3 := hB2.trans (hb.mono hB2.size)
  have X0 := X0.ext hb
  have X1 := X1.ext hb
  have X3 := X3.ext hb
  clear hb hB2
  have HL := Lib.hid (fun h1 h2 => ET.morgan_law x y v 0 0 0 0 0 0 0 0 h1 h2)
  have HF5 := Lib.hid (fun (h : (ET.evalR x v).2 = 0) => show (ET.failsR x v).2 = 0 by unfold ET.failsR; rw [if_neg (by omega), if_neg (by omega)])
  generalize ET.evalR x v = E1 at *
  generalize ET.evalR y v = E2 at *
  obtain ⟨r1, e1⟩ := E1
  obtain ⟨r2, e2⟩ := E2
  dsimp only at HL HF5 ⊢
  by_cases h1 : e1 = 0
  case neg =>
    rw [errV_ne h1]
    clear h1 HL
    go_wp2_with fail
    go_ret
    exact ⟨rfl, hB3⟩
  subst h1
  by_cases h2 : e2 = 0
  case neg =>
    rw [errV_ne h2, errV_zero]
    clear h2 HL
    go_wp2_with fail
    go_ret
    exact ⟨rfl, hB3⟩
  subst h2
  have HL1 := Lib.hid (HL.out rfl rfl)
  have HF1 := Lib.hid (HF5.out rfl)
  clear HL HF5
  rw [errV_zero]
  go_wp2_with fail
  refine region_mov (S := fun w' => w'.cell? ⟨w.heap.size, 0, none⟩ = some (.int .i64 k0) ∧ w'.cell? ⟨w.heap.size, 1, none⟩ = some (.int .i64 n0) ∧ w'.cell? ⟨w.heap.size, 2, none⟩ = some (.slice a0 s0 c0) ∧ w'.cell? ⟨w.heap.size + 1, 0, none⟩ = some (.int .i64 k1) ∧ w'.cell? ⟨w.heap.size + 1, 1, none⟩ = some (.int .i64 n1) ∧ w'.cell? ⟨w.heap.size + 1, 2, none⟩ = some (.slice a1 s1 c1) ∧ w'.cell? ⟨w.heap.size + 1 + 1, 0, none⟩ = some (.bool l3) ∧ w'.cell? ⟨w.heap.size + 1 + 1, 1, none⟩ = some (.int .i64 n3) ∧ w'.cell? ⟨w.heap.size + 1 + 1, 2, none⟩ = some (.slice a3 s3 c3)) (n := 10) (ms := [(true, 0), (true, 1), (true, 4), (false, 2), (false, 3), (false, 5), (true, 6), (true, 7), (true, 8), (false, 9), (false, 10)]) (hm := by kernel_rfl) (hB := by kernel_rfl) (hQ := fun c a d v w h => by cases d <;> exact h) ?_
  have HS0 : Hid ((fun w' => w'.cell? ⟨w.heap.size, 0, none⟩ = some (.int .i64 k0) ∧ w'.cell? ⟨w.heap.size, 1, none⟩ = some (.int .i64 n0) ∧ w'.cell? ⟨w.heap.size, 2, none⟩ = some (.slice a0 s0 c0) ∧ w'.cell? ⟨w.heap.size + 1, 0, none⟩ = some (.int .i64 k1) ∧ w'.cell? ⟨w.heap.size + 1, 1, none⟩ = some (.int .i64 n1) ∧ w'.cell? ⟨w.heap.size + 1, 2, none⟩ = some (.slice a1 s1 c1) ∧ w'.cell? ⟨w.heap.size + 1 + 1, 0, none⟩ = some (.bool l3) ∧ w'.cell? ⟨w.heap.size + 1 + 1, 1, none⟩ = some (.int .i64 n3) ∧ w'.cell? ⟨w.heap.size + 1 + 1, 2, none⟩ = some (.slice a3 s3 c3)) W3.drew) := ⟨(X0).cell 0, (X0).cell 1, (X0).cell 2, (X1).cell 0, (X1).cell 1, (X1).cell 2, (X3).cell 0, (X3).cell 1, (X3).cell 2⟩
  iterate 3
    rw [mov_take]
    simp only [List.getElem?_toArray, List.getElem?_cons_succ, List.getElem?_cons_zero]
    refine ⟨?_, .inl ⟨by rfl, ?_⟩, HS0.out, ?_⟩
    rotate_left
    · rintro w' ⟨s0, s1, s2, s3, s4, s5, s6, s7, s8⟩
      go_simp
      rfl
    simp only [Act.put, List.setIfInBounds_toArray, List.set_cons_zero, List.set_cons_succ]
  have hBd : Below w.heap.size w W3.drew := hB3.drew
  have XDX0 : Blk W3.drew (w.heap.size) #[.int .i64 k0, .int .i64 n0, .slice a0 s0 c0] 24 := X0
  have XDX1 : Blk W3.drew (w.heap.size + 1) #[.int .i64 k1, .int .i64 n1, .slice a1 s1 c1] 24 := X1
  have XDX3 : Blk W3.drew (w.heap.size + 1 + 1) #[.bool l3, .int .i64 n3, .slice a3 s3 c3] 27 := X3
  clear HS0 hB3 X0 X1 X3
  generalize W3.drew = Wd3 at *
  have X0 := XDX0
  have X1 := XDX1
  have X3 := XDX3
  clear XDX0 XDX1 XDX3
  have HS : Hid (∀ W', Below (Wd3).heap.size (Wd3) W' → (fun w' => w'.cell? ⟨w.heap.size, 0, none⟩ = some (.int .i64 k0) ∧ w'.cell? ⟨w.heap.size, 1, none⟩ = some (.int .i64 n0) ∧ w'.cell? ⟨w.heap.size, 2, none⟩ = some (.slice a0 s0 c0) ∧ w'.cell? ⟨w.heap.size + 1, 0, none⟩ = some (.int .i64 k1) ∧ w'.cell? ⟨w.heap.size + 1, 1, none⟩ = some (.int .i64 n1) ∧ w'.cell? ⟨w.heap.size + 1, 2, none⟩ = some (.slice a1 s1 c1) ∧ w'.cell? ⟨w.heap.size + 1 + 1, 0, none⟩ = some (.bool l3) ∧ w'.cell? ⟨w.heap.size + 1 + 1, 1, none⟩ = some (.int .i64 n3) ∧ w'.cell? ⟨w.heap.size + 1 + 1, 2, none⟩ = some (.slice a3 s3 c3)) W') := fun W' h => ⟨(X0.ext h).cell 0, (X0.ext h).cell 1, (X0.ext h).cell 2, (X1.ext h).cell 0, (X1.ext h).cell 1, (X1.ext h).cell 2, (X3.ext h).cell 0, (X3.ext h).cell 1, (X3.ext h).cell 2⟩
  rw [mov_step]
  simp only [List.getElem?_toArray, List.getElem?_cons_succ, List.getElem?_cons_zero]
  go_wp2_with fail
  refine (both_any 10 _ _ _ _ _ ⟨by omega, by omega⟩ (H0.out.ext hBd) (H1.out.ext hBd)).mono ?_
  rintro e V3_0 ⟨⟨p1, rfl, hp1⟩, hb⟩
  have hC0 : Below Wd3.heap.size Wd3 V3_0 := hb
  have Hp1 := Lib.hid hp1
  clear hb hp1
  go_wp2_with fail
  refine And.intro (fun _ => HS.out _ hC0) ?_
  rw [mov_step]
  simp only [List.getElem?_toArray, List.getElem?_cons_succ, List.getElem?_cons_zero]
  go_wp2_with fail
  refine (not_any _ _ _ Hp1.out).mono ?_
  rintro e V3_1 ⟨⟨p2, rfl, hp2⟩, hb⟩
  have hC1 : Below Wd3.heap.size Wd3 V3_1 := hC0.trans (hb.mono hC0.size)
  have Hp1 := Lib.hid (Hp1.out.ext hb)
  have Hp2 := Lib.hid hp2
  clear hb hp2
  go_wp2_with fail
  refine And.intro (fun _ => HS.out _ hC1) ?_
  rw [mov_step]
  simp only [List.getElem?_toArray, List.getElem?_cons_succ, List.getElem?_cons_zero]
  go_wp2_with fail
  refine (eval_any (.mk 9 0 [.mk 10 0 [x, y]]) v _ _ _ (HT.out.ext (hBd.trans (hC1.mono hBd.size))) Hp2.out (H3.out.ext (hBd.trans (hC1.mono hBd.size)))).mono ?_
  rintro e V3_2 ⟨rfl, hb⟩
  have hC2 : Below Wd3.heap.size Wd3 V3_2 := hC1.trans (hb.mono hC1.size)
  have Hp1 := Lib.hid (Hp1.out.ext hb)
  have Hp2 := Lib.hid (Hp2.out.ext hb)
  clear hb
  go_wp2_with fail
  refine And.intro (fun _ => HS.out _ hC2) ?_
  iterate 3
    rw [mov_take]
    simp only [List.getElem?_toArray, List.getElem?_cons_succ, List.getElem?_cons_zero]
    refine ⟨?_, .inl ⟨by rfl, ?_⟩, (HS.out _ hC2), ?_⟩
    rotate_left
    · rintro w' _
      go_simp
      rfl
    simp only [Act.put, List.setIfInBounds_toArray, List.set_cons_zero, List.set_cons_succ]
  rw [mov_step]
  simp only [List.getElem?_toArray, List.getElem?_cons_succ, List.getElem?_cons_zero]
  go_wp2_with fail
  refine And.intro (fun _ => HS.out _ hC2) ?_
  rw [mov_step]
  simp only [List.getElem?_toArray, List.getElem?_cons_succ, List.getElem?_cons_zero]
  go_wp2_with fail
  refine And.intro (fun h => absurd h (by omega)) ?_
  rw [wpMov]
  have hB4 : Below w.heap.size w V3_2 := hBd.trans (hC2.mono hBd.size)
  have X0 := X0.ext hC2
  have X1 := X1.ext hC2
  have X3 := X3.ext hC2
  clear HS hBd hC0 hC1 hC2
  go_wp2_with fail
  refine region_mov (S := fun w' => w'.cell? ⟨w.heap.size, 0, none⟩ = some (.int .i64 k0) ∧ w'.cell? ⟨w.heap.size, 1, none⟩ = some (.int .i64 n0) ∧ w'.cell? ⟨w.heap.size, 2, none⟩ = some (.slice a0 s0 c0) ∧ w'.cell? ⟨w.heap.size + 1, 0, none⟩ = some (.int .i64 k1) ∧ w'.cell? ⟨w.heap.size + 1, 1, none⟩ = some (.int .i64 n1) ∧ w'.cell? ⟨w.heap.size + 1, 2, none⟩ = some (.slice a1 s1 c1) ∧ w'.cell? ⟨w.heap.size + 1 + 1, 0, none⟩ = some (.bool l3) ∧ w'.cell? ⟨w.heap.size + 1 + 1, 1, none⟩ = some (.int .i64 n3) ∧ w'.cell? ⟨w.heap.size + 1 + 1, 2, none⟩ = some (.slice a3 s3 c3)) (n := 11) (ms := [(true, 0), (true, 2), (true, 5), (false, 1), (false, 3), (false, 4), (false, 6), (true, 7), (true, 8), (true, 9), (false, 10), (false, 11)]) (hm := by kernel_rfl) (hB := by kernel_rfl) (hQ := fun c a d v w h => by cases d <;> exact h) ?_
  have HS0 : Hid ((fun w' => w'.cell? ⟨w.heap.size, 0, none⟩ = some (.int .i64 k0) ∧ w'.cell? ⟨w.heap.size, 1, none⟩ = some (.int .i64 n0) ∧ w'.cell? ⟨w.heap.size, 2, none⟩ = some (.slice a0 s0 c0) ∧ w'.cell? ⟨w.heap.size + 1, 0, none⟩ = some (.int .i64 k1) ∧ w'.cell? ⟨w.heap.size + 1, 1, none⟩ = some (.int .i64 n1) ∧ w'.cell? ⟨w.heap.size + 1, 2, none⟩ = some (.slice a1 s1 c1) ∧ w'.cell? ⟨w.heap.size + 1 + 1, 0, none⟩ = some (.bool l3) ∧ w'.cell? ⟨w.heap.size + 1 + 1, 1, none⟩ = some (.int .i64 n3) ∧ w'.cell? ⟨w.heap.size + 1 + 1, 2, none⟩ = some (.slice a3 s3 c3)) V3_2.drew) := ⟨(X0).cell 0, (X0).cell 1, (X0).cell 2, (X1).cell 0, (X1).cell 1, (X1).cell 2, (X3).cell 0, (X3).cell 1, (X3).cell 2⟩
  iterate 3
    rw [mov_take]
    simp only [List.getElem?_toArray, List.getElem?_cons_succ, List.getElem?_cons_zero]
    refine ⟨?_, .inl ⟨by rfl, ?_⟩, HS0.out, ?_⟩
    rotate_left
    · rintro w' ⟨s0, s1, s2, s3, s4, s5, s6, s7, s8⟩
      go_simp
      rfl
    simp only [Act.put, List.setIfInBounds_toArray, List.set_cons_zero, List.set_cons_succ]
  have hBd : Below w.heap.size w V3_2.drew := hB4.drew
  have XDX0 : Blk V3_2.drew (w.heap.size) #[.int .i64 k0, .int .i64 n0, .slice a0 s0 c0] 24 := X0
  have XDX1 : Blk V3_2.drew (w.heap.size + 1) #[.int .i64 k1, .int .i64 n1, .slice a1 s1 c1] 24 := X1
  have XDX3 : Blk V3_2.drew (w.heap.size + 1 + 1) #[.bool l3, .int .i64 n3, .slice a3 s3 c3] 27 := X3
  clear HS0 hB4 X0 X1 X3
  generalize V3_2.drew = Wd4 at *
  have X0 := XDX0
  have X1 := XDX1
  have X3 := XDX3
  clear XDX0 XDX1 XDX3
  have HS : Hid (∀ W', Below (Wd4).heap.size (Wd4) W' → (fun w' => w'.cell? ⟨w.heap.size, 0, none⟩ = some (.int .i64 k0) ∧ w'.cell? ⟨w.heap.size, 1, none⟩ = some (.int .i64 n0) ∧ w'.cell? ⟨w.heap.size, 2, none⟩ = some (.slice a0 s0 c0) ∧ w'.cell? ⟨w.heap.size + 1, 0, none⟩ = some (.int .i64 k1) ∧ w'.cell? ⟨w.heap.size + 1, 1, none⟩ = some (.int .i64 n1) ∧ w'.cell? ⟨w.heap.size + 1, 2, none⟩ = some (.slice a1 s1 c1) ∧ w'.cell? ⟨w.heap.size + 1 + 1, 0, none⟩ = some (.bool l3) ∧ w'.cell? ⟨w.heap.size + 1 + 1, 1, none⟩ = some (.int .i64 n3) ∧ w'.cell? ⟨w.heap.size + 1 + 1, 2, none⟩ = some (.slice a3 s3 c3)) W') := fun W' h => ⟨(X0.ext h).cell 0, (X0.ext h).cell 1, (X0.ext h).cell 2, (X1.ext h).cell 0, (X1.ext h).cell 1, (X1.ext h).cell 2, (X3.ext h).cell 0, (X3.ext h).cell 1, (X3.ext h).cell 2⟩
  rw [mov_step]
  simp only [List.getElem?_toArray, List.getElem?_cons_succ, List.getElem?_cons_zero]
  go_wp2_with fail
  refine (not_any _ _ _ (H0.out.ext hBd)).mono ?_
  rintro e V4_0 ⟨⟨p3, rfl, hp3⟩, hb⟩
  have hC0 : Below Wd4.heap.size Wd4 V4_0 := hb
  have Hp3 := Lib.hid hp3
  clear hb hp3
  go_wp2_with fail
  refine And.intro (fun _ => HS.out _ hC0) ?_
  rw [mov_step]
  simp only [List.getElem?_toArray, List.getElem?_cons_succ, List.getElem?_cons_zero]
  go_wp2_with fail
  refine (not_any _ _ _ (H1.out.ext (hBd.trans (hC0.mono hBd.size)))).mono ?_
  rintro e V4_1 ⟨⟨p4, rfl, hp4⟩, hb⟩
  have hC1 : Below Wd4.heap.size Wd4 V4_1 := hC0.trans (hb.mono hC0.size)
  have Hp3 := Lib.hid (Hp3.out.ext hb)
  have Hp4 := Lib.hid hp4
  clear hb hp4
  go_wp2_with fail
  refine And.intro (fun _ => HS.out _ hC1) ?_
  rw [mov_step]
  simp only [List.getElem?_toArray, List.getElem?_cons_succ, List.getElem?_cons_zero]
  go_wp2_with fail
  refine (both_any 11 _ _ _ _ _ ⟨by omega, by omega⟩ Hp3.out Hp4.out).mono ?_
  rintro e V4_2 ⟨⟨p5, rfl, hp5⟩, hb⟩
  have hC2 : Below Wd4.heap.size Wd4 V4_2 := hC1.trans (hb.mono hC1.size)
  have Hp3 := Lib.hid (Hp3.out.ext hb)
  have Hp4 := Lib.hid (Hp4.out.ext hb)
  have Hp5 := Lib.hid hp5
  clear hb hp5
  go_wp2_with fail
  refine And.intro (fun _ => HS.out _ hC2) ?_
  rw [mov_step]
  simp only [List.getElem?_toArray, List.getElem?_cons_succ, List.getElem?_cons_zero]
  go_wp2_with fail
  refine (eval_any (.mk 11 0 [.mk 9 0 [x], .mk 9 0 [y]]) v _ _ _ (HT.out.ext (hBd.trans (hC2.mono hBd.size))) Hp5.out (H3.out.ext (hBd.trans (hC2.mono hBd.size)))).mono ?_
  rintro e V4_3 ⟨rfl, hb⟩
  have hC3 : Below Wd4.heap.size Wd4 V4_3 := hC2.trans (hb.mono hC2.size)
  have Hp3 := Lib.hid (Hp3.out.ext hb)
  have Hp4 := Lib.hid (Hp4.out.ext hb)
  have Hp5 := Lib.hid (Hp5.out.ext hb)
  clear hb
  go_wp2_with fail
  refine And.intro (fun _ => HS.out _ hC3) ?_
  iterate 3
    rw [mov_take]
    simp only [List.getElem?_toArray, List.getElem?_cons_succ, List.getElem?_cons_zero]
    refine ⟨?_, .inl ⟨by rfl, ?_⟩, (HS.out _ hC3), ?_⟩
    rotate_left
    · rintro w' _
      go_simp
      rfl
    simp only [Act.put, List.setIfInBounds_toArray, List.set_cons_zero, List.set_cons_succ]
  rw [mov_step]
  simp only [List.getElem?_toArray, List.getElem?_cons_succ, List.getElem?_cons_zero]
  go_wp2_with fail
  refine And.intro (fun _ => HS.out _ hC3) ?_
  rw [mov_step]
  simp only [List.getElem?_toArray, List.getElem?_cons_succ, List.getElem?_cons_zero]
  go_wp2_with fail
  refine And.intro (fun h => absurd h (by omega)) ?_
  rw [wpMov]
  have hB5 : Below w.heap.size w V4_3 := hBd.trans (hC3.mono hBd.size)
  have X0 := X0.ext hC3
  have X1 := X1.ext hC3
  have X3 := X3.ext hC3
  clear HS hBd hC0 hC1 hC2 hC3
  have f0_0 := X0.cell 0
  have f0_1 := X0.cell 1
  have f0_2 := X0.cell 2
  simp only [List.getElem?_toArray, List.getElem?_cons_succ, List.getElem?_cons_zero] at f0_0 f0_1 f0_2
  have f1_0 := X3.cell 0
  have f1_1 := X3.cell 1
  have f1_2 := X3.cell 2
  simp only [List.getElem?_toArray, List.getElem?_cons_succ, List.getElem?_cons_zero] at f1_0 f1_1 f1_2
  go_wp2_with fail
  refine (fails_any x v _ _ _ (HT.out.ext hB5) (H0.out.ext hB5) (H3.out.ext hB5)).mono ?_
  rintro e W6 ⟨rfl, hb⟩
  clear f0_0 f0_1 f0_2 f1_0 f1_1 f1_2
  have hB6 : Below w.heap.size w W6 := hB5.trans (hb.mono hB5.size)
  have X0 := X0.ext hb
  have X1 := X1.ext hb
  have X3 := X3.ext hb
  clear hb hB5
  go_wp2_with fail
  refine region_mov (S := fun w' => w'.cell? ⟨w.heap.size, 0, none⟩ = some (.int .i64 k0) ∧ w'.cell? ⟨w.heap.size, 1, none⟩ = some (.int .i64 n0) ∧ w'.cell? ⟨w.heap.size, 2, none⟩ = some (.slice a0 s0 c0) ∧ w'.cell? ⟨w.heap.size + 1, 0, none⟩ = some (.int .i64 k1) ∧ w'.cell? ⟨w.heap.size + 1, 1, none⟩ = some (.int .i64 n1) ∧ w'.cell? ⟨w.heap.size + 1, 2, none⟩ = some (.slice a1 s1 c1) ∧ w'.cell? ⟨w.heap.size + 1 + 1, 0, none⟩ = some (.bool l3) ∧ w'.cell? ⟨w.heap.size + 1 + 1, 1, none⟩ = some (.int .i64 n3) ∧ w'.cell? ⟨w.heap.size + 1 + 1, 2, none⟩ = some (.slice a3 s3 c3)) (n := 9) (ms := [(true, 0), (true, 3), (false, 1), (false, 2), (false, 4), (true, 5), (true, 6), (true, 7), (false, 8), (false, 9)]) (hm := by kernel_rfl) (hB := by kernel_rfl) (hQ := fun c a d v w h => by cases d <;> exact h) ?_
  have HS0 : Hid ((fun w' => w'.cell? ⟨w.heap.size, 0, none⟩ = some (.int .i64 k0) ∧ w'.cell? ⟨w.heap.size, 1, none⟩ = some (.int .i64 n0) ∧ w'.cell? ⟨w.heap.size, 2, none⟩ = some (.slice a0 s0 c0) ∧ w'.cell? ⟨w.heap.size + 1, 0, none⟩ = some (.int .i64 k1) ∧ w'.cell? ⟨w.heap.size + 1, 1, none⟩ = some (.int .i64 n1) ∧ w'.cell? ⟨w.heap.size + 1, 2, none⟩ = some (.slice a1 s1 c1) ∧ w'.cell? ⟨w.heap.size + 1 + 1, 0, none⟩ = some (.bool l3) ∧ w'.cell? ⟨w.heap.size + 1 + 1, 1, none⟩ = some (.int .i64 n3) ∧ w'.cell? ⟨w.heap.size + 1 + 1, 2, none⟩ = some (.slice a3 s3 c3)) W6.drew) := ⟨(X0).cell 0, (X0).cell 1, (X0).cell 2, (X1).cell 0, (X1).cell 1, (X1).cell 2, (X3).cell 0, (X3).cell 1, (X3).cell 2⟩
  iterate 2
    rw [mov_take]
    simp only [List.getElem?_toArray, List.getElem?_cons_succ, List.getElem?_cons_zero]
    refine ⟨?_, .inl ⟨by rfl, ?_⟩, HS0.out, ?_⟩
    rotate_left
    · rintro w' ⟨s0, s1, s2, s3, s4, s5, s6, s7, s8⟩
      go_simp
      rfl
    simp only [Act.put, List.setIfInBounds_toArray, List.set_cons_zero, List.set_cons_succ]
  have hBd : Below w.heap.size w W6.drew := hB6.drew
  have XDX0 : Blk W6.drew (w.heap.size) #[.int .i64 k0, .int .i64 n0, .slice a0 s0 c0] 24 := X0
  have XDX1 : Blk W6.drew (w.heap.size + 1) #[.int .i64 k1, .int .i64 n1, .slice a1 s1 c1] 24 := X1
  have XDX3 : Blk W6.drew (w.heap.size + 1 + 1) #[.bool l3, .int .i64 n3, .slice a3 s3 c3] 27 := X3
  clear HS0 hB6 X0 X1 X3
  generalize W6.drew = Wd6 at *
  have X0 := XDX0
  have X1 := XDX1
  have X3 := XDX3
  clear XDX0 XDX1 XDX3
  have HS : Hid (∀ W', Below (Wd6).heap.size (Wd6) W' → (fun w' => w'.cell? ⟨w.heap.size, 0, none⟩ = some (.int .i64 k0) ∧ w'.cell? ⟨w.heap.size, 1, none⟩ = some (.int .i64 n0) ∧ w'.cell? ⟨w.heap.size, 2, none⟩ = some (.slice a0 s0 c0) ∧ w'.cell? ⟨w.heap.size + 1, 0, none⟩ = some (.int .i64 k1) ∧ w'.cell? ⟨w.heap.size + 1, 1, none⟩ = some (.int .i64 n1) ∧ w'.cell? ⟨w.heap.size + 1, 2, none⟩ = some (.slice a1 s1 c1) ∧ w'.cell? ⟨w.heap.size + 1 + 1, 0, none⟩ = some (.bool l3) ∧ w'.cell? ⟨w.heap.size + 1 + 1, 1, none⟩ = some (.int .i64 n3) ∧ w'.cell? ⟨w.heap.size + 1 + 1, 2, none⟩ = some (.slice a3 s3 c3)) W') := fun W' h => ⟨(X0.ext h).cell 0, (X0.ext h).cell 1, (X0.ext h).cell 2, (X1.ext h).cell 0, (X1.ext h).cell 1, (X1.ext h).cell 2, (X3.ext h).cell 0, (X3.ext h).cell 1, (X3.ext h).cell 2⟩
  rw [mov_step]
  simp only [List.getElem?_toArray, List.getElem?_cons_succ, List.getElem?_cons_zero]
  go_wp2_with fail
  refine (not_any _ _ _ (H0.out.ext hBd)).mono ?_
  rintro e V6_0 ⟨⟨p6, rfl, hp6⟩, hb⟩
  have hC0 : Below Wd6.heap.size Wd6 V6_0 := hb
  have Hp6 := Lib.hid hp6
  clear hb hp6
  go_wp2_with fail
  refine And.intro (fun _ => HS.out _ hC0) ?_
  rw [mov_step]
  simp only [List.getElem?_toArray, List.getElem?_cons_succ, List.getElem?_cons_zero]
  go_wp2_with fail
  refine (not_any _ _ _ Hp6.out).mono ?_
  rintro e V6_1 ⟨⟨p7, rfl, hp7⟩, hb⟩
  have hC1 : Below Wd6.heap.size Wd6 V6_1 := hC0.trans (hb.mono hC0.size)
  have Hp6 := Lib.hid (Hp6.out.ext hb)
  have Hp7 := Lib.hid hp7
  clear hb hp7
  go_wp2_with fail
  refine And.intro (fun _ => HS.out _ hC1) ?_
  rw [mov_step]
  simp only [List.getElem?_toArray, List.getElem?_cons_succ, List.getElem?_cons_zero]
  go_wp2_with fail
  refine (fails_any (.mk 9 0 [.mk 9 0 [x]]) v _ _ _ (HT.out.ext (hBd.trans (hC1.mono hBd.size))) Hp7.out (H3.out.ext (hBd.trans (hC1.mono hBd.size)))).mono ?_
  rintro e V6_2 ⟨rfl, hb⟩
  have hC2 : Below Wd6.heap.size Wd6 V6_2 := hC1.trans (hb.mono hC1.size)
  have Hp6 := Lib.hid (Hp6.out.ext hb)
  have Hp7 := Lib.hid (Hp7.out.ext hb)
  clear hb
  go_wp2_with fail
  refine And.intro (fun _ => HS.out _ hC2) ?_
  iterate 3
    rw [mov_take]
    simp only [List.getElem?_toArray, List.getElem?_cons_succ, List.getElem?_cons_zero]
    refine ⟨?_, .inl ⟨by rfl, ?_⟩, (HS.out _ hC2), ?_⟩
    rotate_left
    · rintro w' _
      go_simp
      rfl
    simp only [Act.put, List.setIfInBounds_toArray, List.set_cons_zero, List.set_cons_succ]
  rw [mov_step]
  simp only [List.getElem?_toArray, List.getElem?_cons_succ, List.getElem?_cons_zero]
  go_wp2_with fail
  refine And.intro (fun _ => HS.out _ hC2) ?_
  rw [mov_step]
  simp only [List.getElem?_toArray, List.getElem?_cons_succ, List.getElem?_cons_zero]
  go_wp2_with fail
  refine And.intro (fun h => absurd h (by omega)) ?_
  rw [wpMov]
  have hB7 : Below w.heap.size w V6_2 := hBd.trans (hC2.mono hBd.size)
  have X0 := X0.ext hC2
  have X1 := X1.ext hC2
  have X3 := X3.ext hC2
  clear HS hBd hC0 hC1 hC2
  go_wp2_with fail
  refine region_mov (S := fun w' => w'.cell? ⟨w.heap.size, 0, none⟩ = some (.int .i64 k0) ∧ w'.cell? ⟨w.heap.size, 1, none⟩ = some (.int .i64 n0) ∧ w'.cell? ⟨w.heap.size, 2, none⟩ = some (.slice a0 s0 c0) ∧ w'.cell? ⟨w.heap.size + 1, 0, none⟩ = some (.int .i64 k1) ∧ w'.cell? ⟨w.heap.size + 1, 1, none⟩ = some (.int .i64 n1) ∧ w'.cell? ⟨w.heap.size + 1, 2, none⟩ = some (.slice a1 s1 c1) ∧ w'.cell? ⟨w.heap.size + 1 + 1, 0, none⟩ = some (.bool l3) ∧ w'.cell? ⟨w.heap.size + 1 + 1, 1, none⟩ = some (.int .i64 n3) ∧ w'.cell? ⟨w.heap.size + 1 + 1, 2, none⟩ = some (.slice a3 s3 c3)) (n := 9) (ms := [(true, 0), (true, 1), (true, 3), (false, 2), (false, 4), (true, 5), (true, 6), (true, 7), (false, 8), (false, 9)]) (hm := by kernel_rfl) (hB := by kernel_rfl) (hQ := fun c a d v w h => by cases d <;> exact h) ?_
  have HS0 : Hid ((fun w' => w'.cell? ⟨w.heap.size, 0, none⟩ = some (.int .i64 k0) ∧ w'.cell? ⟨w.heap.size, 1, none⟩ = some (.int .i64 n0) ∧ w'.cell? ⟨w.heap.size, 2, none⟩ = some (.slice a0 s0 c0) ∧ w'.cell? ⟨w.heap.size + 1, 0, none⟩ = some (.int .i64 k1) ∧ w'.cell? ⟨w.heap.size + 1, 1, none⟩ = some (.int .i64 n1) ∧ w'.cell? ⟨w.heap.size + 1, 2, none⟩ = some (.slice a1 s1 c1) ∧ w'.cell? ⟨w.heap.size + 1 + 1, 0, none⟩ = some (.bool l3) ∧ w'.cell? ⟨w.heap.size + 1 + 1, 1, none⟩ = some (.int .i64 n3) ∧ w'.cell? ⟨w.heap.size + 1 + 1, 2, none⟩ = some (.slice a3 s3 c3)) V6_2.drew) := ⟨(X0).cell 0, (X0).cell 1, (X0).cell 2, (X1).cell 0, (X1).cell 1, (X1).cell 2, (X3).cell 0, (X3).cell 1, (X3).cell 2⟩
  iterate 3
    rw [mov_take]
    simp only [List.getElem?_toArray, List.getElem?_cons_succ, List.getElem?_cons_zero]
    refine ⟨?_, .inl ⟨by rfl, ?_⟩, HS0.out, ?_⟩
    rotate_left
    · rintro w' ⟨s0, s1, s2, s3, s4, s5, s6, s7, s8⟩
      go_simp
      rfl
    simp only [Act.put, List.setIfInBounds_toArray, List.set_cons_zero, List.set_cons_succ]
  have hBd : Below w.heap.size w V6_2.drew := hB7.drew
  have XDX0 : Blk V6_2.drew (w.heap.size) #[.int .i64 k0, .int .i64 n0, .slice a0 s0 c0] 24 := X0
  have XDX1 : Blk V6_2.drew (w.heap.size + 1) #[.int .i64 k1, .int .i64 n1, .slice a1 s1 c1] 24 := X1
  have XDX3 : Blk V6_2.drew (w.heap.size + 1 + 1) #[.bool l3, .int .i64 n3, .slice a3 s3 c3] 27 := X3
  clear HS0 hB7 X0 X1 X3
  generalize V6_2.drew = Wd7 at *
  have X0 := XDX0
  have X1 := XDX1
  have X3 := XDX3
  clear XDX0 XDX1 XDX3
  have HS : Hid (∀ W', Below (Wd7).heap.size (Wd7) W' → (fun w' => w'.cell? ⟨w.heap.size, 0, none⟩ = some (.int .i64 k0) ∧ w'.cell? ⟨w.heap.size, 1, none⟩ = some (.int .i64 n0) ∧ w'.cell? ⟨w.heap.size, 2, none⟩ = some (.slice a0 s0 c0) ∧ w'.cell? ⟨w.heap.size + 1, 0, none⟩ = some (.int .i64 k1) ∧ w'.cell? ⟨w.heap.size + 1, 1, none⟩ = some (.int .i64 n1) ∧ w'.cell? ⟨w.heap.size + 1, 2, none⟩ = some (.slice a1 s1 c1) ∧ w'.cell? ⟨w.heap.size + 1 + 1, 0, none⟩ = some (.bool l3) ∧ w'.cell? ⟨w.heap.size + 1 + 1, 1, none⟩ = some (.int .i64 n3) ∧ w'.cell? ⟨w.heap.size + 1 + 1, 2, none⟩ = some (.slice a3 s3 c3)) W') := fun W' h => ⟨(X0.ext h).cell 0, (X0.ext h).cell 1, (X0.ext h).cell 2, (X1.ext h).cell 0, (X1.ext h).cell 1, (X1.ext h).cell 2, (X3.ext h).cell 0, (X3.ext h).cell 1, (X3.ext h).cell 2⟩
  rw [mov_step]
  simp only [List.getElem?_toArray, List.getElem?_cons_succ, List.getElem?_cons_zero]
  go_wp2_with fail
  refine (both_any 8 _ _ _ _ _ ⟨by omega, by omega⟩ (H0.out.ext hBd) (H0.out.ext hBd)).mono ?_
  rintro e V7_0 ⟨⟨p8, rfl, hp8⟩, hb⟩
  have hC0 : Below Wd7.heap.size Wd7 V7_0 := hb
  have Hp8 := Lib.hid hp8
  clear hb hp8
  go_wp2_with fail
  refine And.intro (fun _ => HS.out _ hC0) ?_
  rw [mov_step]
  simp only [List.getElem?_toArray, List.getElem?_cons_succ, List.getElem?_cons_zero]
  go_wp2_with fail
  refine (eval_any (.mk 8 0 [x, x]) v _ _ _ (HT.out.ext (hBd.trans (hC0.mono hBd.size))) Hp8.out (H3.out.ext (hBd.trans (hC0.mono hBd.size)))).mono ?_
  rintro e V7_1 ⟨rfl, hb⟩
  have hC1 : Below Wd7.heap.size Wd7 V7_1 := hC0.trans (hb.mono hC0.size)
  have Hp8 := Lib.hid (Hp8.out.ext hb)
  clear hb
  go_wp2_with fail
  refine And.intro (fun _ => HS.out _ hC1) ?_
  iterate 3
    rw [mov_take]
    simp only [List.getElem?_toArray, List.getElem?_cons_succ, List.getElem?_cons_zero]
    refine ⟨?_, .inl ⟨by rfl, ?_⟩, (HS.out _ hC1), ?_⟩
    rotate_left
    · rintro w' _
      go_simp
      rfl
    simp only [Act.put, List.setIfInBounds_toArray, List.set_cons_zero, List.set_cons_succ]
  rw [mov_step]
  simp only [List.getElem?_toArray, List.getElem?_cons_succ, List.getElem?_cons_zero]
  go_wp2_with fail
  refine And.intro (fun _ => HS.out _ hC1) ?_
  rw [mov_step]
  simp only [List.getElem?_toArray, List.getElem?_cons_succ, List.getElem?_cons_zero]
  go_wp2_with fail
  refine And.intro (fun h => absurd h (by omega)) ?_
  rw [wpMov]
  have hB8 : Below w.heap.size w V7_1 := hBd.trans (hC1.mono hBd.size)
  have X0 := X0.ext hC1
  have X1 := X1.ext hC1
  have X3 := X3.ext hC1
  clear HS hBd hC0 hC1
  clear X0 X1 X3 HT H0 H1 H3
  generalize ET.evalR (.mk 9 0 [.mk 10 0 [x, y]]) v = E3 at *
  generalize ET.evalR (.mk 11 0 [.mk 9 0 [x], .mk 9 0 [y]]) v = E4 at *
  generalize ET.failsR x v = E5 at *
  generalize ET.failsR (.mk 9 0 [.mk 9 0 [x]]) v = E6 at *
  generalize ET.evalR (.mk 8 0 [x, x]) v = E7 at *
  obtain ⟨a, e3⟩ := E3
  obtain ⟨b, e4⟩ := E4
  obtain ⟨p, e5⟩ := E5
  obtain ⟨q, e6⟩ := E6
  obtain ⟨n, e7⟩ := E7
  dsimp only at HL1 HF1 ⊢
  obtain ⟨q1, q2, q3⟩ := HL1.out
  obtain rfl := HF1.out
  clear HL1 HF1
  have H1 : (e3 ≠ 0) ∨ (e3 = 0 ∧ e4 ≠ 0) ∨ (e3 = 0 ∧ e4 = 0 ∧ a = b) := by
    by_cases h3 : e3 = 0
    · by_cases h4 : e4 = 0
      · exact .inr (.inr ⟨h3, h4, q1 h3 h4⟩)
      · exact .inr (.inl ⟨h3, h4⟩)
    · exact .inl h3
  have H2 : (e6 ≠ 0) ∨ (e6 = 0 ∧ p = q) := by
    by_cases h6 : e6 = 0
    · exact .inr ⟨h6, q2 rfl h6⟩
    · exact .inl h6
  have H3 : (e7 ≠ 0) ∨ (e7 = 0 ∧ n = 1) := by
    by_cases h7 : e7 = 0
    · exact .inr ⟨h7, q3 h7⟩
    · exact .inl h7
  clear q1 q2 q3
  rw [errV_zero]
  rcases H2 with h6 | ⟨rfl, rfl⟩
  all_goals first | rw [errV_ne h6] | skip
  all_goals
    rcases H3 with h7 | ⟨rfl, rfl⟩
  all_goals first | rw [errV_ne h7] | skip
  all_goals
    rcases H1 with h3 | ⟨rfl, h4⟩ | ⟨rfl, rfl, rfl⟩
  all_goals first | rw [errV_ne h3] | rw [errV_ne h4] | skip
  all_goals
    try clear h3
    try clear h4
    try clear h6
    try clear h7
    try simp only [errV_zero]
  all_goals
    cases p
  all_goals
    go_wp2_with fail
    go_ret
    exact ⟨rfl, hB8⟩
end Go.Proofs.YtcecpggkeaohnaaDoor
