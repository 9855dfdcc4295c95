/- The walk through the statement ExprLeft. -/
import Derived.Test.YtcecpggkeaohnaaDoorEX7
import Derived.Test.YtcecpggkeaohnaaDoorTAs
import Derived.Test.YtcecpggkeaohnaaDoorRegm
namespace Go.Proofs.YtcecpggkeaohnaaDoor
set_option maxRecDepth 100000
open Go.RowKit
set_option linter.unusedSimpArgs false
set_option linter.unusedVariables false
set_option maxRecDepth 100000 in
set_option maxHeartbeats 8000000 in
theorem exprLeft_go {v0 v1 v3 : Value} (w : World) (hT : TakesAt w) (hE : ErrTypeAt w) (x : ET) (o0 : ExprAt w v0 x) (y : ET) (o1 : ExprAt w v1 y) (v : VT) (o3 : ValAt w v3 v) :
    Calls Tryd.prog 7 #[v0, v1, v3] w fun e w' => e = .returned (.bool true) ∧ Below w.heap.size w w' := by
  have HT := Lib.hid hT
  have HE := Lib.hid hE
  have H0 := Lib.hid o0
  have H1 := Lib.hid o1
  have H3 := Lib.hid o3
  obtain ⟨k0, n0, s0, a0, c0, rfl⟩ := o0.shape
  obtain ⟨k1, n1, s1, a1, c1, rfl⟩ := o1.shape
  obtain ⟨l3, n3, s3, a3, c3, rfl⟩ := o3.shape
  clear hT hE o0 o1 o3
  go_enter Tryd.func7, Tryd.ntmps7
  go_wp2_with fail
  generalize hW0 : (((w.alloc (.cells #[.int .i64 k0, .int .i64 n0, .slice a0 s0 c0] 24)).alloc (.cells #[.int .i64 k1, .int .i64 n1, .slice a1 s1 c1] 24)).alloc (.cells #[.bool l3, .int .i64 n3, .slice a3 s3 c3] 27)) = W0
  have hB0 : Below w.heap.size w W0 := by rw [← hW0]; repeat (first | with_reducible assumption | with_reducible exact Below.refl _ _ | with_reducible apply Below.drew | (with_reducible refine Below.alloc ?_ (by first | omega | (simp only [World.size_alloc, size_setCell, size_drew, size_drewN]; omega) | (dsimp only; omega) | (simp only [World.size_alloc, size_setCell, size_drew, size_drewN]; dsimp only; omega)) _) | (with_reducible refine Below.setCell ?_ (by first | omega | (simp only [World.size_alloc, size_setCell, size_drew, size_drewN]; omega) | (dsimp only; omega) | (simp only [World.size_alloc, size_setCell, size_drew, size_drewN]; dsimp only; omega)) _) | (with_reducible apply below_drewN))
  have X0 : Blk W0 (w.heap.size) #[.int .i64 k0, .int .i64 n0, .slice a0 s0 c0] 24 := by rw [← hW0]; exact (((Blk.new w #[.int .i64 k0, .int .i64 n0, .slice a0 s0 c0] 24)).alloc _).alloc _
  have X1 : Blk W0 (w.heap.size + 1) #[.int .i64 k1, .int .i64 n1, .slice a1 s1 c1] 24 := by rw [← hW0]; exact ((show Blk ((w.alloc (.cells #[.int .i64 k0, .int .i64 n0, .slice a0 s0 c0] 24)).alloc (.cells #[.int .i64 k1, .int .i64 n1, .slice a1 s1 c1] 24)) (w.heap.size + 1) _ _ by simpa using Blk.new (w.alloc (.cells #[.int .i64 k0, .int .i64 n0, .slice a0 s0 c0] 24)) #[.int .i64 k1, .int .i64 n1, .slice a1 s1 c1] 24)).alloc _
  have X3 : Blk W0 (w.heap.size + 1 + 1) #[.bool l3, .int .i64 n3, .slice a3 s3 c3] 27 := by rw [← hW0]; exact (show Blk (((w.alloc (.cells #[.int .i64 k0, .int .i64 n0, .slice a0 s0 c0] 24)).alloc (.cells #[.int .i64 k1, .int .i64 n1, .slice a1 s1 c1] 24)).alloc (.cells #[.bool l3, .int .i64 n3, .slice a3 s3 c3] 27)) (w.heap.size + 1 + 1) _ _ by simpa using Blk.new ((w.alloc (.cells #[.int .i64 k0, .int .i64 n0, .slice a0 s0 c0] 24)).alloc (.cells #[.int .i64 k1, .int .i64 n1, .slice a1 s1 c1] 24)) #[.bool l3, .int .i64 n3, .slice a3 s3 c3] 27)
  clear hW0
  refine (asked_fact _ (HT.out.ext hB0)).mono ?_
  rintro e W1 ⟨rfl, hb⟩
  have hB1 : Below w.heap.size w W1 := hB0.trans (hb.mono hB0.size)
  have X0 := X0.ext hb
  have X1 := X1.ext hb
  have X3 := X3.ext hb
  clear hb hB0
  have f0_0 := X0.cell 0
  have f0_1 := X0.cell 1
  have f0_2 := X0.cell 2
  simp only [List.getElem?_toArray, List.getElem?_cons_succ, List.getElem?_cons_zero] at f0_0 f0_1 f0_2
  have f1_0 := X3.cell 0
  have f1_1 := X3.cell 1
  have f1_2 := X3.cell 2
  simp only [List.getElem?_toArray, List.getElem?_cons_succ, List.getElem?_cons_zero] at f1_0 f1_1 f1_2
  go_wp2_with fail
  refine (eval_any x v _ _ _ (HT.out.ext hB1) (H0.out.ext hB1) (H3.out.ext hB1)).mono ?_
  rintro e W2 ⟨rfl, hb⟩
  clear f0_0 f0_1 f0_2 f1_0 f1_1 f1_2
  have hB2 : Below w.heap.size w W2 := hB1.trans (hb.mono hB1.size)
  have X0 := X0.ext hb
  have X1 := X1.ext hb
  have X3 := X3.ext hb
  clear hb hB1
  have f0_0 := X1.cell 0
  have f0_1 := X1.cell 1
  have f0_2 := X1.cell 2
  simp only [List.getElem?_toArray, List.getElem?_cons_succ, List.getElem?_cons_zero] at f0_0 f0_1 f0_2
  have f1_0 := X3.cell 0
  have f1_1 := X3.cell 1
  have f1_2 := X3.cell 2
  simp only [List.getElem?_toArray, List.getElem?_cons_succ, List.getElem?_cons_zero] at f1_0 f1_1 f1_2
  go_wp2_with fail
  refine (eval_any y v _ _ _ (HT.out.ext hB2) (H1.out.ext hB2) (H3.out.ext hB2)).mono ?_
  rintro e W3 ⟨rfl, hb⟩
  clear f0_0 f0_1 f0_2 f1_0 f1_1 f1_2
  have hB3 : Below w.heap.size w W3 := hB2.trans (hb.mono hB2.size)
  have X0 := X0.ext hb
  have X1 := X1.ext hb
  have X3 := X3.ext hb
  clear hb hB2
  go_wp2_with fail
  refine region_mov (S := fun w' => w'.cell? ⟨w.heap.size, 0, none⟩ = some (.int .i64 k0) ∧ w'.cell? ⟨w.heap.size, 1, none⟩ = some (.int .i64 n0) ∧ w'.cell? ⟨w.heap.size, 2, none⟩ = some (.slice a0 s0 c0) ∧ w'.cell? ⟨w.heap.size + 1, 0, none⟩ = some (.int .i64 k1) ∧ w'.cell? ⟨w.heap.size + 1, 1, none⟩ = some (.int .i64 n1) ∧ w'.cell? ⟨w.heap.size + 1, 2, none⟩ = some (.slice a1 s1 c1) ∧ w'.cell? ⟨w.heap.size + 1 + 1, 0, none⟩ = some (.bool l3) ∧ w'.cell? ⟨w.heap.size + 1 + 1, 1, none⟩ = some (.int .i64 n3) ∧ w'.cell? ⟨w.heap.size + 1 + 1, 2, none⟩ = some (.slice a3 s3 c3)) (n := 9) (ms := [(true, 0), (true, 1), (true, 3), (false, 2), (false, 4), (true, 5), (true, 6), (true, 7), (false, 8), (false, 9)]) (hm := by kernel_rfl) (hB := by kernel_rfl) (hQ := fun c a d v w h => by cases d <;> exact h) ?_
  have HS0 : Hid ((fun w' => w'.cell? ⟨w.heap.size, 0, none⟩ = some (.int .i64 k0) ∧ w'.cell? ⟨w.heap.size, 1, none⟩ = some (.int .i64 n0) ∧ w'.cell? ⟨w.heap.size, 2, none⟩ = some (.slice a0 s0 c0) ∧ w'.cell? ⟨w.heap.size + 1, 0, none⟩ = some (.int .i64 k1) ∧ w'.cell? ⟨w.heap.size + 1, 1, none⟩ = some (.int .i64 n1) ∧ w'.cell? ⟨w.heap.size + 1, 2, none⟩ = some (.slice a1 s1 c1) ∧ w'.cell? ⟨w.heap.size + 1 + 1, 0, none⟩ = some (.bool l3) ∧ w'.cell? ⟨w.heap.size + 1 + 1, 1, none⟩ = some (.int .i64 n3) ∧ w'.cell? ⟨w.heap.size + 1 + 1, 2, none⟩ = some (.slice a3 s3 c3)) W3.drew) := ⟨(X0).cell 0, (X0).cell 1, (X0).cell 2, (X1).cell 0, (X1).cell 1, (X1).cell 2, (X3).cell 0, (X3).cell 1, (X3).cell 2⟩
  iterate 3
    rw [mov_take]
    simp only [List.getElem?_toArray, List.getElem?_cons_succ, List.getElem?_cons_zero]
    refine ⟨?_, .inl ⟨by rfl, ?_⟩, HS0.out, ?_⟩
    rotate_left
    · rintro w' ⟨s0, s1, s2, s3, s4, s5, s6, s7, s8⟩
      go_simp
      rfl
    simp only [Act.put, List.setIfInBounds_toArray, List.set_cons_zero, List.set_cons_succ]
  have hBd : Below w.heap.size w W3.drew := hB3.drew
  have XDX0 : Blk W3.drew (w.heap.size) #[.int .i64 k0, .int .i64 n0, .slice a0 s0 c0] 24 := X0
  have XDX1 : Blk W3.drew (w.heap.size + 1) #[.int .i64 k1, .int .i64 n1, .slice a1 s1 c1] 24 := X1
  have XDX3 : Blk W3.drew (w.heap.size + 1 + 1) #[.bool l3, .int .i64 n3, .slice a3 s3 c3] 27 := X3
  clear HS0 hB3 X0 X1 X3
  generalize W3.drew = Wd3 at *
  have X0 := XDX0
  have X1 := XDX1
  have X3 := XDX3
  clear XDX0 XDX1 XDX3
  have HS : Hid (∀ W', Below (Wd3).heap.size (Wd3) W' → (fun w' => w'.cell? ⟨w.heap.size, 0, none⟩ = some (.int .i64 k0) ∧ w'.cell? ⟨w.heap.size, 1, none⟩ = some (.int .i64 n0) ∧ w'.cell? ⟨w.heap.size, 2, none⟩ = some (.slice a0 s0 c0) ∧ w'.cell? ⟨w.heap.size + 1, 0, none⟩ = some (.int .i64 k1) ∧ w'.cell? ⟨w.heap.size + 1, 1, none⟩ = some (.int .i64 n1) ∧ w'.cell? ⟨w.heap.size + 1, 2, none⟩ = some (.slice a1 s1 c1) ∧ w'.cell? ⟨w.heap.size + 1 + 1, 0, none⟩ = some (.bool l3) ∧ w'.cell? ⟨w.heap.size + 1 + 1, 1, none⟩ = some (.int .i64 n3) ∧ w'.cell? ⟨w.heap.size + 1 + 1, 2, none⟩ = some (.slice a3 s3 c3)) W') := fun W' h => ⟨(X0.ext h).cell 0, (X0.ext h).cell 1, (X0.ext h).cell 2, (X1.ext h).cell 0, (X1.ext h).cell 1, (X1.ext h).cell 2, (X3.ext h).cell 0, (X3.ext h).cell 1, (X3.ext h).cell 2⟩
  rw [mov_step]
  simp only [List.getElem?_toArray, List.getElem?_cons_succ, List.getElem?_cons_zero]
  go_wp2_with fail
  refine (both_any 6 _ _ _ _ _ ⟨by omega, by omega⟩ (H0.out.ext hBd) (H1.out.ext hBd)).mono ?_
  rintro e V3_0 ⟨⟨p8, rfl, hp8⟩, hb⟩
  have hC0 : Below Wd3.heap.size Wd3 V3_0 := hb
  have Hp8 := Lib.hid hp8
  clear hb hp8
  go_wp2_with fail
  refine And.intro (fun _ => HS.out _ hC0) ?_
  rw [mov_step]
  simp only [List.getElem?_toArray, List.getElem?_cons_succ, List.getElem?_cons_zero]
  go_wp2_with fail
  refine (eval_any (.mk 6 0 [x, y]) v _ _ _ (HT.out.ext (hBd.trans (hC0.mono hBd.size))) Hp8.out (H3.out.ext (hBd.trans (hC0.mono hBd.size)))).mono ?_
  rintro e V3_1 ⟨rfl, hb⟩
  have hC1 : Below Wd3.heap.size Wd3 V3_1 := hC0.trans (hb.mono hC0.size)
  have Hp8 := Lib.hid (Hp8.out.ext hb)
  clear hb
  go_wp2_with fail
  refine And.intro (fun _ => HS.out _ hC1) ?_
  iterate 3
    rw [mov_take]
    simp only [List.getElem?_toArray, List.getElem?_cons_succ, List.getElem?_cons_zero]
    refine ⟨?_, .inl ⟨by rfl, ?_⟩, (HS.out _ hC1), ?_⟩
    rotate_left
    · rintro w' _
      go_simp
      rfl
    simp only [Act.put, List.setIfInBounds_toArray, List.set_cons_zero, List.set_cons_succ]
  rw [mov_step]
  simp only [List.getElem?_toArray, List.getElem?_cons_succ, List.getElem?_cons_zero]
  go_wp2_with fail
  refine And.intro (fun _ => HS.out _ hC1) ?_
  rw [mov_step]
  simp only [List.getElem?_toArray, List.getElem?_cons_succ, List.getElem?_cons_zero]
  go_wp2_with fail
  refine And.intro (fun h => absurd h (by omega)) ?_
  rw [wpMov]
  have hB4 : Below w.heap.size w V3_1 := hBd.trans (hC1.mono hBd.size)
  have X0 := X0.ext hC1
  have X1 := X1.ext hC1
  have X3 := X3.ext hC1
  clear HS hBd hC0 hC1
  have HL := Lib.hid (fun h1 h2 => ET.left_law x y v 0 H0.out.fit H1.out.fit H3.out.fit h1 h2)
  have HA := Lib.hid (fun h => ET.eval_bd (x := x) H0.out.fit H3.out.fit h)
  have HBb := Lib.hid (fun h => ET.eval_bd (x := y) H1.out.fit H3.out.fit h)
  have HG := Lib.hid (HE.out.ext hB4)
  clear X0 X1 X3 HT H0 H1 H3 HE
  generalize ET.evalR x v = E1 at *
  generalize ET.evalR y v = E2 at *
  generalize ET.evalR (.mk 6 0 [x, y]) v = E3 at *
  obtain ⟨a, e1⟩ := E1
  obtain ⟨b, e2⟩ := E2
  obtain ⟨r, e3⟩ := E3
  dsimp only at HL HA HBb ⊢
  by_cases h1 : e1 = 0
  case neg =>
    rw [errV_ne h1]
    clear h1 HL HA HBb
    go_wp2_with fail
    go_ret
    exact ⟨rfl, hB4⟩
  subst h1
  by_cases h2 : e2 = 0
  case neg =>
    rw [errV_ne h2, errV_zero]
    clear h2 HL HA HBb
    go_wp2_with fail
    go_ret
    exact ⟨rfl, hB4⟩
  subst h2
  have hL := HL.out rfl rfl
  have ha := HA.out rfl
  have hbb := HBb.out rfl
  unfold In64 at ha hbb
  simp only [errV_zero]
  clear HL HA HBb
  by_cases h0 : b = 0
  · subst h0
    rcases hL.1 rfl with h | h
    · rw [h]
      clear h hL
      have C1 := Lib.hid (fun W (hb : Below V3_1.heap.size V3_1 W) => error_yes 6 W (HG.out.ext hb))
      have C2 := Lib.hid (fun W (hb : Below V3_1.heap.size V3_1 W) => error_no 6 4 (by omega) W (HG.out.ext hb))
      rw [errV_ne (show (6 : Int) ≠ 0 by omega)] at C1 C2 ⊢
      go_wp2_with fail
      refine (C1.out _ (Below.refl _ _)).mono ?_
      rintro e w6 ⟨rfl, hb6⟩
      go_wp2_with fail
      refine (C2.out _ hb6).mono ?_
      rintro e w7 ⟨rfl, hb7⟩
      have hB7 := hB4.trans ((hb6.trans (hb7.mono hb6.size)).mono hB4.size)
      go_wp2_with fail
      go_ret
      exact ⟨rfl, hB7⟩
    · rw [h]
      clear h hL
      have C1 := Lib.hid (fun W (hb : Below V3_1.heap.size V3_1 W) => error_no 4 6 (by omega) W (HG.out.ext hb))
      have C2 := Lib.hid (fun W (hb : Below V3_1.heap.size V3_1 W) => error_yes 4 W (HG.out.ext hb))
      rw [errV_ne (show (4 : Int) ≠ 0 by omega)] at C1 C2 ⊢
      go_wp2_with fail
      refine (C1.out _ (Below.refl _ _)).mono ?_
      rintro e w6 ⟨rfl, hb6⟩
      go_wp2_with fail
      refine (C2.out _ hb6).mono ?_
      rintro e w7 ⟨rfl, hb7⟩
      have hB7 := hB4.trans ((hb6.trans (hb7.mono hb6.size)).mono hB4.size)
      go_wp2_with fail
      go_ret
      exact ⟨rfl, hB7⟩
  · have hq0 : (b == 0) = false := by simpa using h0
    have hR := rem_side a b h0
    rcases hL.2 h0 with h | ⟨h, hr⟩
    · rw [h]
      clear h hL hR h0
      have C2 := Lib.hid (fun W (hb : Below V3_1.heap.size V3_1 W) => error_yes 4 W (HG.out.ext hb))
      rw [errV_ne (show (4 : Int) ≠ 0 by omega)] at C2 ⊢
      go_wp2_with fail
      refine (C2.out _ (Below.refl _ _)).mono ?_
      rintro e w7 ⟨rfl, hb7⟩
      have hB7 := hB4.trans (hb7.mono hB4.size)
      go_wp2_with fail
      go_ret
      exact ⟨rfl, hB7⟩
    · rw [h, errV_zero, hr]
      clear h hr hL
      generalize a.tmod b = r at *
      obtain ⟨r1, r2, r3, r4⟩ := hR
      have hcase : (0 ≤ a ∧ 0 ≤ r) ∨ (a < 0 ∧ r ≤ 0) := by omega
      have hcase2 : (0 < b ∧ r < b ∧ 0 - b < r) ∨ (b = -9223372036854775808 ∧ b < r) ∨ (b < 0 ∧ -9223372036854775808 < b ∧ b < r ∧ r < 0 - b) := by omega
      have hr0 : -9223372036854775808 ≤ r ∧ r ≤ 9223372036854775807 := by omega
      clear r1 r2 r3 r4 h0
      rcases hcase2 with ⟨q1, q2, q3⟩ | ⟨q1, q2⟩ | ⟨q1, q1b, q2, q3⟩
      · have q4 : ¬ b < 0 := by omega
        have q5 : IntKind.i64.wrap (0 - b) = 0 - b := by rw [IntKind.wrap_i64]; omega
        rcases hcase with ⟨p1, p2⟩ | ⟨p1, p2⟩
        · go_wp2_with fail
          all_goals go_ret
          all_goals exact ⟨rfl, hB4⟩
        · have p3 : a ≤ 0 := by omega
          have p4 : ¬ 0 ≤ a := by omega
          go_wp2_with fail
          all_goals go_ret
          all_goals exact ⟨rfl, hB4⟩
      · subst q1
        rcases hcase with ⟨p1, p2⟩ | ⟨p1, p2⟩
        · go_wp2_with fail
          all_goals go_ret
          all_goals exact ⟨rfl, hB4⟩
        · have p3 : a ≤ 0 := by omega
          have p4 : ¬ 0 ≤ a := by omega
          go_wp2_with fail
          all_goals go_ret
          all_goals exact ⟨rfl, hB4⟩
      · have q4 : ¬ 0 < b := by omega
        have q5 : IntKind.i64.wrap (0 - b) = 0 - b := by rw [IntKind.wrap_i64]; omega
        rcases hcase with ⟨p1, p2⟩ | ⟨p1, p2⟩
        · go_wp2_with fail
          all_goals go_ret
          all_goals exact ⟨rfl, hB4⟩
        · have p3 : a ≤ 0 := by omega
          have p4 : ¬ 0 ≤ a := by omega
          go_wp2_with fail
          all_goals go_ret
          all_goals exact ⟨rfl, hB4⟩
end Go.Proofs.YtcecpggkeaohnaaDoor
