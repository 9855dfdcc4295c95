/- The walk through the statement RngTells. -/
import Derived.Test.YtedpdnicalboiaaDoorRF1
import Derived.Test.YtedpdnicalboiaaDoorRngK
import Derived.Test.YtedpdnicalboiaaDoorTAs
namespace Go.Proofs.YtedpdnicalboiaaDoor
set_option maxRecDepth 100000
open Go.RowKit
set_option linter.unusedSimpArgs false
set_option linter.unusedVariables false
set_option maxRecDepth 100000 in
set_option maxHeartbeats 8000000 in
theorem rngTells_aux (s g t u X Z N R : Nat) (n : Int) (w : World) (hE : ErrTypeAt w) (hN : IntKind.u64.wrap n = (N : Int))
    (M1 : Hid (∀ w : World, Calls Tryd.prog 17 #[.int .u64 t] w fun e w' => e = .returned (.int .u64 X) ∧ w = w'))
    (C1 : Hid (∀ w : World, Calls Tryd.prog 14 #[.agg #[.int .u64 s, .int .u64 g]] w fun e w' => e = .returned (.agg #[.int .u64 t, .int .u64 g]) ∧ Below w.heap.size w w'))
    (C2 : Hid (∀ w : World, Calls Tryd.prog 10 #[.agg #[.int .u64 s, .int .u64 g]] w fun e w' => e = .returned (.tuple #[.int .u64 X, .agg #[.int .u64 t, .int .u64 g]]) ∧ Below w.heap.size w w'))
    (C3 : Hid (∀ w : World, Calls Tryd.prog 11 #[.agg #[.int .u64 s, .int .u64 g]] w fun e w' => e = .returned (.tuple #[.agg #[.int .u64 u, .int .u64 g], .agg #[.int .u64 X, .int .u64 Z]]) ∧ Below w.heap.size w w'))
    (C4 : Hid (∀ w : World, Calls Tryd.prog 12 #[.agg #[.int .u64 s, .int .u64 g]] w fun e w' => e = .returned (.tuple #[.agg #[.int .u64 u, .int .u64 g], .agg #[.int .u64 X, .int .u64 Z]]) ∧ Below w.heap.size w w'))
    (CB1 : Hid ((n < 1 ∨ 2147483647 < n) → ∀ w : World, Calls Tryd.prog 15 #[.agg #[.int .u64 s, .int .u64 g], .int .i64 n] w fun e w' => e = .returned (.tuple #[.int .i64 0, .agg #[.int .u64 0, .int .u64 0], .iface 30 (.int .i64 1)]) ∧ Below w.heap.size w w'))
    (CB2 : Hid (1 ≤ n → n ≤ 2147483647 → (∀ w : World, Calls Tryd.prog 13 #[.agg #[.int .u64 s, .int .u64 g], .int .i64 n] w fun e w' => e = .returned (.int .i64 R) ∧ Below w.heap.size w w') ∧
      (∀ w : World, Calls Tryd.prog 15 #[.agg #[.int .u64 s, .int .u64 g], .int .i64 n] w fun e w' => e = .returned (.tuple #[.int .i64 R, .agg #[.int .u64 t, .int .u64 g], .nilIface]) ∧ Below w.heap.size w w')))
    (C5 : Hid (∀ w : World, Calls Tryd.prog 18 #[.int .i64 n] w fun e w' => e = .returned (.agg #[.int .u64 N, .int .u64 11400714819323198485]) ∧ Below w.heap.size w w')) :
    Calls Tryd.prog 3 #[.agg #[.int .u64 s, .int .u64 g], .int .i64 n] w fun e w' => e = .returned (.bool true) ∧ Below w.heap.size w w' := by
  have HE := Lib.hid hE
  have HN := Lib.hid hN
  clear hE hN
  go_enter Tryd.func3, Tryd.ntmps3
  go_wp2_with fail
  generalize hW0 : w.alloc (.cells #[.int .u64 s, .int .u64 g] 24) = W0
  have hB0 : Below w.heap.size w W0 := by rw [← hW0]; repeat (first | with_reducible assumption | with_reducible exact Below.refl _ _ | with_reducible apply Below.drew | (with_reducible refine Below.alloc ?_ (by first | omega | (simp only [World.size_alloc, size_setCell, size_drew, size_drewN]; omega) | (dsimp only; omega) | (simp only [World.size_alloc, size_setCell, size_drew, size_drewN]; dsimp only; omega)) _) | (with_reducible refine Below.setCell ?_ (by first | omega | (simp only [World.size_alloc, size_setCell, size_drew, size_drewN]; omega) | (dsimp only; omega) | (simp only [World.size_alloc, size_setCell, size_drew, size_drewN]; dsimp only; omega)) _) | (with_reducible apply below_drewN))
  have X0 : Blk W0 w.heap.size #[.int .u64 s, .int .u64 g] 24 := by rw [← hW0]; exact Blk.new _ _ _
  clear hW0
  refine (known_any _).mono ?_
  rintro e W1 ⟨rfl, hb⟩
  have hB1 : Below w.heap.size w W1 := hB0.trans (hb.mono hB0.size)
  have X0 := X0.ext hb
  clear hb hB0
  have f0 := X0.cell 0
  have f1 := X0.cell 1
  simp only [List.getElem?_toArray, List.getElem?_cons_succ, List.getElem?_cons_zero] at f0 f1
  go_wp2_with fail
  refine (C2.out _).mono ?_
  rintro e W2 ⟨rfl, hb⟩
  have hB2 : Below w.heap.size w W2 := hB1.trans (hb.mono hB1.size)
  have X0 := X0.ext hb
  clear hb hB1 f0 f1
  have z0 := X0.lt
  go_upto_region 3 with (fail)
  have hB3 : Below w.heap.size w (W2.alloc (.cells #[.int .u64 t, .int .u64 g] 24)) := hB2.alloc (by omega) _
  have X0 := X0.alloc (.cells #[.int .u64 t, .int .u64 g] 24)
  have X7 : Blk (W2.alloc (.cells #[.int .u64 t, .int .u64 g] 24)) W2.heap.size #[.int .u64 t, .int .u64 g] 24 := Blk.new _ _ _
  generalize W2.alloc (.cells #[.int .u64 t, .int .u64 g] 24) = W3 at *
  clear hB2
  have f0 := X0.cell 0
  have f1 := X0.cell 1
  simp only [List.getElem?_toArray, List.getElem?_cons_succ, List.getElem?_cons_zero] at f0 f1
  go_wp2_with fail
  refine (C3.out _).mono ?_
  rintro e W4 ⟨rfl, hb⟩
  have hB4 : Below w.heap.size w W4 := hB3.trans (hb.mono hB3.size)
  have X0 := X0.ext hb
  have X7 := X7.ext hb
  clear hb hB3 f0 f1
  have z1 := X0.lt
  have z7 := X7.lt
  go_upto_region 4 with (fail)
  have hB5 : Below w.heap.size w ((W4.alloc (.cells #[.int .u64 u, .int .u64 g] 24)).alloc (.cells #[.int .u64 X, .int .u64 Z] 24)) := (hB4.alloc (by omega) _).alloc (by simp; omega) _
  have X0 := (X0.alloc (.cells #[.int .u64 u, .int .u64 g] 24)).alloc (.cells #[.int .u64 X, .int .u64 Z] 24)
  have X7 := (X7.alloc (.cells #[.int .u64 u, .int .u64 g] 24)).alloc (.cells #[.int .u64 X, .int .u64 Z] 24)
  have X8 : Blk ((W4.alloc (.cells #[.int .u64 u, .int .u64 g] 24)).alloc (.cells #[.int .u64 X, .int .u64 Z] 24)) W4.heap.size #[.int .u64 u, .int .u64 g] 24 := (Blk.new _ _ _).alloc _
  have X9 : Blk ((W4.alloc (.cells #[.int .u64 u, .int .u64 g] 24)).alloc (.cells #[.int .u64 X, .int .u64 Z] 24)) (W4.heap.size + 1) #[.int .u64 X, .int .u64 Z] 24 := by simpa using Blk.new (W4.alloc (.cells #[.int .u64 u, .int .u64 g] 24)) #[.int .u64 X, .int .u64 Z] 24
  generalize (W4.alloc (.cells #[.int .u64 u, .int .u64 g] 24)).alloc (.cells #[.int .u64 X, .int .u64 Z] 24) = W5 at *
  clear hB4
  have f0 := X0.cell 0
  have f1 := X0.cell 1
  simp only [List.getElem?_toArray, List.getElem?_cons_succ, List.getElem?_cons_zero] at f0 f1
  go_wp2_with fail
  refine (C4.out _).mono ?_
  rintro e W6 ⟨rfl, hb⟩
  have hB6 : Below w.heap.size w W6 := hB5.trans (hb.mono hB5.size)
  have X0 := X0.ext hb
  have X7 := X7.ext hb
  have X8 := X8.ext hb
  have X9 := X9.ext hb
  clear hb hB5 f0 f1
  have z1 := X0.lt
  have z7 := X7.lt
  have z9 := X9.lt
  go_upto_region 5 with (fail)
  have hB7 : Below w.heap.size w ((W6.alloc (.cells #[.int .u64 u, .int .u64 g] 24)).alloc (.cells #[.int .u64 X, .int .u64 Z] 24)) := (hB6.alloc (by omega) _).alloc (by simp; omega) _
  have X0 := (X0.alloc (.cells #[.int .u64 u, .int .u64 g] 24)).alloc (.cells #[.int .u64 X, .int .u64 Z] 24)
  have X7 := (X7.alloc (.cells #[.int .u64 u, .int .u64 g] 24)).alloc (.cells #[.int .u64 X, .int .u64 Z] 24)
  have X8 := (X8.alloc (.cells #[.int .u64 u, .int .u64 g] 24)).alloc (.cells #[.int .u64 X, .int .u64 Z] 24)
  have X9 := (X9.alloc (.cells #[.int .u64 u, .int .u64 g] 24)).alloc (.cells #[.int .u64 X, .int .u64 Z] 24)
  have X10 : Blk ((W6.alloc (.cells #[.int .u64 u, .int .u64 g] 24)).alloc (.cells #[.int .u64 X, .int .u64 Z] 24)) W6.heap.size #[.int .u64 u, .int .u64 g] 24 := (Blk.new _ _ _).alloc _
  have X11 : Blk ((W6.alloc (.cells #[.int .u64 u, .int .u64 g] 24)).alloc (.cells #[.int .u64 X, .int .u64 Z] 24)) (W6.heap.size + 1) #[.int .u64 X, .int .u64 Z] 24 := by simpa using Blk.new (W6.alloc (.cells #[.int .u64 u, .int .u64 g] 24)) #[.int .u64 X, .int .u64 Z] 24
  generalize (W6.alloc (.cells #[.int .u64 u, .int .u64 g] 24)).alloc (.cells #[.int .u64 X, .int .u64 Z] 24) = W7 at *
  clear hB6
  have z11 := X11.lt
  go_upto_region 8 with (fail)
  have hB8 : Below w.heap.size w (W7.alloc (.cells #[.int .u64 0, .int .u64 0] 24)) := hB7.alloc (by omega) _
  have X0 := X0.alloc (.cells #[.int .u64 0, .int .u64 0] 24)
  have X7 := X7.alloc (.cells #[.int .u64 0, .int .u64 0] 24)
  have X8 := X8.alloc (.cells #[.int .u64 0, .int .u64 0] 24)
  have X9 := X9.alloc (.cells #[.int .u64 0, .int .u64 0] 24)
  have X10 := X10.alloc (.cells #[.int .u64 0, .int .u64 0] 24)
  have X11 := X11.alloc (.cells #[.int .u64 0, .int .u64 0] 24)
  have X14 : Blk (W7.alloc (.cells #[.int .u64 0, .int .u64 0] 24)) W7.heap.size #[.int .u64 0, .int .u64 0] 24 := Blk.new _ _ _
  have z14 := X14.lt
  generalize W7.alloc (.cells #[.int .u64 0, .int .u64 0] 24) = W8 at *
  clear hB7
  have f0 := X0.cell 0
  have f1 := X0.cell 1
  simp only [List.getElem?_toArray, List.getElem?_cons_succ, List.getElem?_cons_zero] at f0 f1
  by_cases n1 : n < 1
  · have CB := Lib.hid (CB1.out (.inl n1))
    go_wp2_with fail
    refine (CB.out _).mono ?_
    rintro e WB ⟨rfl, hb⟩
    have hBB : Below w.heap.size w WB := hB8.trans (hb.mono hB8.size)
    have X0 := X0.ext hb
    have X7 := X7.ext hb
    have X8 := X8.ext hb
    have X9 := X9.ext hb
    have X10 := X10.ext hb
    have X11 := X11.ext hb
    have X14 := X14.ext hb
    clear hb hB8 f0 f1
    have zB := X14.lt
    go_upto_region 13 with (fail)
    have hBC : Below w.heap.size w (WB.alloc (.cells #[.int .u64 0, .int .u64 0] 24)) := hBB.alloc (by omega) _
    have X0 := X0.alloc (.cells #[.int .u64 0, .int .u64 0] 24)
    have X7 := X7.alloc (.cells #[.int .u64 0, .int .u64 0] 24)
    have X8 := X8.alloc (.cells #[.int .u64 0, .int .u64 0] 24)
    have X9 := X9.alloc (.cells #[.int .u64 0, .int .u64 0] 24)
    have X10 := X10.alloc (.cells #[.int .u64 0, .int .u64 0] 24)
    have X11 := X11.alloc (.cells #[.int .u64 0, .int .u64 0] 24)
    have X14 := X14.alloc (.cells #[.int .u64 0, .int .u64 0] 24)
    have X16 : Blk (WB.alloc (.cells #[.int .u64 0, .int .u64 0] 24)) WB.heap.size #[.int .u64 0, .int .u64 0] 24 := Blk.new _ _ _
    generalize WB.alloc (.cells #[.int .u64 0, .int .u64 0] 24) = WC at *
    clear hBB
    have CE := error_yes 1 WC (HE.out.ext hBC)
    rw [errV_ne (by decide)] at CE
    have CE := Lib.hid CE
    go_wp2_with fail
    refine (CE.out).mono ?_
    rintro e WD ⟨rfl, hb⟩
    have hBD : Below w.heap.size w WD := hBC.trans (hb.mono hBC.size)
    have X0 := X0.ext hb
    have X7 := X7.ext hb
    have X8 := X8.ext hb
    have X9 := X9.ext hb
    have X10 := X10.ext hb
    have X11 := X11.ext hb
    have X14 := X14.ext hb
    have X16 := X16.ext hb
    clear hb hBC CE
    go_wp2_with fail
    refine region_mov (S := fun w' => w'.cell? ⟨w.heap.size, 0, none⟩ = some (.int .u64 s) ∧ w'.cell? ⟨w.heap.size, 1, none⟩ = some (.int .u64 g) ∧ w'.cell? ⟨W2.heap.size, 0, none⟩ = some (.int .u64 t) ∧ w'.cell? ⟨W2.heap.size, 1, none⟩ = some (.int .u64 g) ∧ w'.cell? ⟨W4.heap.size, 0, none⟩ = some (.int .u64 u) ∧ w'.cell? ⟨W4.heap.size, 1, none⟩ = some (.int .u64 g) ∧ w'.cell? ⟨(W4.heap.size + 1), 0, none⟩ = some (.int .u64 X) ∧ w'.cell? ⟨(W4.heap.size + 1), 1, none⟩ = some (.int .u64 Z) ∧ w'.cell? ⟨W6.heap.size, 0, none⟩ = some (.int .u64 u) ∧ w'.cell? ⟨W6.heap.size, 1, none⟩ = some (.int .u64 g) ∧ w'.cell? ⟨(W6.heap.size + 1), 0, none⟩ = some (.int .u64 X) ∧ w'.cell? ⟨(W6.heap.size + 1), 1, none⟩ = some (.int .u64 Z) ∧ w'.cell? ⟨W7.heap.size, 0, none⟩ = some (.int .u64 0) ∧ w'.cell? ⟨W7.heap.size, 1, none⟩ = some (.int .u64 0) ∧ w'.cell? ⟨WB.heap.size, 0, none⟩ = some (.int .u64 0) ∧ w'.cell? ⟨WB.heap.size, 1, none⟩ = some (.int .u64 0)) (n := 46) (ms := [(true, 0), (true, 1), (true, 2), (true, 3), (false, 4), (true, 5), (false, 6), (true, 7), (true, 8), (true, 9), (true, 10), (true, 11), (false, 12), (true, 13), (true, 14), (true, 15), (true, 16), (true, 17), (true, 18), (true, 19), (true, 20), (true, 21), (true, 22), (true, 23), (true, 24), (true, 25), (true, 26), (true, 27), (true, 28), (true, 29), (true, 30), (true, 31), (true, 32), (true, 33), (true, 34), (true, 35), (true, 36), (true, 37), (true, 38), (true, 39), (true, 41), (true, 42), (true, 43), (false, 40), (true, 44), (true, 45), (false, 46)]) (hm := by kernel_rfl) (hB := by kernel_rfl) (hQ := fun c a d v w h => by cases d <;> exact h) ?_
    have hBd : Below w.heap.size w WD.drew := hBD.drew
    have HS : Hid (∀ W', Below WD.drew.heap.size WD.drew W' → (fun w' => w'.cell? ⟨w.heap.size, 0, none⟩ = some (.int .u64 s) ∧ w'.cell? ⟨w.heap.size, 1, none⟩ = some (.int .u64 g) ∧ w'.cell? ⟨W2.heap.size, 0, none⟩ = some (.int .u64 t) ∧ w'.cell? ⟨W2.heap.size, 1, none⟩ = some (.int .u64 g) ∧ w'.cell? ⟨W4.heap.size, 0, none⟩ = some (.int .u64 u) ∧ w'.cell? ⟨W4.heap.size, 1, none⟩ = some (.int .u64 g) ∧ w'.cell? ⟨(W4.heap.size + 1), 0, none⟩ = some (.int .u64 X) ∧ w'.cell? ⟨(W4.heap.size + 1), 1, none⟩ = some (.int .u64 Z) ∧ w'.cell? ⟨W6.heap.size, 0, none⟩ = some (.int .u64 u) ∧ w'.cell? ⟨W6.heap.size, 1, none⟩ = some (.int .u64 g) ∧ w'.cell? ⟨(W6.heap.size + 1), 0, none⟩ = some (.int .u64 X) ∧ w'.cell? ⟨(W6.heap.size + 1), 1, none⟩ = some (.int .u64 Z) ∧ w'.cell? ⟨W7.heap.size, 0, none⟩ = some (.int .u64 0) ∧ w'.cell? ⟨W7.heap.size, 1, none⟩ = some (.int .u64 0) ∧ w'.cell? ⟨WB.heap.size, 0, none⟩ = some (.int .u64 0) ∧ w'.cell? ⟨WB.heap.size, 1, none⟩ = some (.int .u64 0)) W') := fun W' h => ⟨((show Blk WD.drew _ _ _ from X0).ext h).cell 0, ((show Blk WD.drew _ _ _ from X0).ext h).cell 1, ((show Blk WD.drew _ _ _ from X7).ext h).cell 0, ((show Blk WD.drew _ _ _ from X7).ext h).cell 1, ((show Blk WD.drew _ _ _ from X8).ext h).cell 0, ((show Blk WD.drew _ _ _ from X8).ext h).cell 1, ((show Blk WD.drew _ _ _ from X9).ext h).cell 0, ((show Blk WD.drew _ _ _ from X9).ext h).cell 1, ((show Blk WD.drew _ _ _ from X10).ext h).cell 0, ((show Blk WD.drew _ _ _ from X10).ext h).cell 1, ((show Blk WD.drew _ _ _ from X11).ext h).cell 0, ((show Blk WD.drew _ _ _ from X11).ext h).cell 1, ((show Blk WD.drew _ _ _ from X14).ext h).cell 0, ((show Blk WD.drew _ _ _ from X14).ext h).cell 1, ((show Blk WD.drew _ _ _ from X16).ext h).cell 0, ((show Blk WD.drew _ _ _ from X16).ext h).cell 1⟩
    clear X0 X7 X8 X9 X10 X11 X14 X16 hBD
    generalize WD.drew = WE at *
    have hN := HN.out
    have hfd := fld_seed0
    have heq := eql_seed
    iterate 4
      rw [mov_take]
      simp only [List.getElem?_toArray, List.getElem?_cons_succ, List.getElem?_cons_zero]
      refine ⟨?_, .inl ⟨by rfl, ?_⟩, (HS.out _ (Below.refl _ _)), ?_⟩
      rotate_left
      · rintro w' ⟨s0, s1, s2, s3, s4, s5, s6, s7, s8, s9, s10, s11, s12, s13, s14, s15⟩
        go_simp
        rfl
      simp only [Act.put, List.setIfInBounds_toArray, List.set_cons_zero, List.set_cons_succ]
    rw [mov_step]
    simp only [List.getElem?_toArray, List.getElem?_cons_succ, List.getElem?_cons_zero]
    go_wp2_with fail
    refine (C1.out _).mono ?_
    rintro e WF ⟨rfl, hbF⟩
    go_wp2_with fail
    refine And.intro (fun _ => HS.out _ hbF) ?_
    iterate 1
      rw [mov_take]
      simp only [List.getElem?_toArray, List.getElem?_cons_succ, List.getElem?_cons_zero]
      refine ⟨?_, .inl ⟨by rfl, ?_⟩, (HS.out _ hbF), ?_⟩
      rotate_left
      · rintro w' ⟨s0, s1, s2, s3, s4, s5, s6, s7, s8, s9, s10, s11, s12, s13, s14, s15⟩
        go_simp
        rfl
      simp only [Act.put, List.setIfInBounds_toArray, List.set_cons_zero, List.set_cons_succ]
    rw [mov_step]
    simp only [List.getElem?_toArray, List.getElem?_cons_succ, List.getElem?_cons_zero]
    go_wp2_with fail
    refine (M1.out _).mono ?_
    rintro e WG ⟨rfl, rfl⟩
    go_wp2_with fail
    refine And.intro (fun _ => HS.out _ hbF) ?_
    iterate 5
      rw [mov_take]
      simp only [List.getElem?_toArray, List.getElem?_cons_succ, List.getElem?_cons_zero]
      refine ⟨?_, .inl ⟨by rfl, ?_⟩, (HS.out _ hbF), ?_⟩
      rotate_left
      · rintro w' ⟨s0, s1, s2, s3, s4, s5, s6, s7, s8, s9, s10, s11, s12, s13, s14, s15⟩
        go_simp
        rfl
      simp only [Act.put, List.setIfInBounds_toArray, List.set_cons_zero, List.set_cons_succ]
    rw [mov_step]
    simp only [List.getElem?_toArray, List.getElem?_cons_succ, List.getElem?_cons_zero]
    go_wp2_with fail
    refine (C1.out _).mono ?_
    rintro e WH ⟨rfl, hb⟩
    have hbH := hbF.trans (hb.mono hbF.size)
    clear hb
    go_wp2_with fail
    refine And.intro (fun _ => HS.out _ hbH) ?_
    iterate 30
      rw [mov_take]
      simp only [List.getElem?_toArray, List.getElem?_cons_succ, List.getElem?_cons_zero]
      refine ⟨?_, .inl ⟨by rfl, ?_⟩, (HS.out _ hbH), ?_⟩
      rotate_left
      · rintro w' ⟨s0, s1, s2, s3, s4, s5, s6, s7, s8, s9, s10, s11, s12, s13, s14, s15⟩
        go_simp
        rfl
      simp only [Act.put, List.setIfInBounds_toArray, List.set_cons_zero, List.set_cons_succ]
    rw [mov_step]
    simp only [List.getElem?_toArray, List.getElem?_cons_succ, List.getElem?_cons_zero]
    go_wp2_with fail
    refine (C5.out _).mono ?_
    rintro e WI ⟨rfl, hb⟩
    have hbI := hbH.trans (hb.mono hbH.size)
    clear hb
    go_wp2_with fail
    refine And.intro (fun _ => HS.out _ hbI) ?_
    iterate 2
      rw [mov_take]
      simp only [List.getElem?_toArray, List.getElem?_cons_succ, List.getElem?_cons_zero]
      refine ⟨?_, .inl ⟨by rfl, ?_⟩, (HS.out _ hbI), ?_⟩
      rotate_left
      · rintro w' ⟨s0, s1, s2, s3, s4, s5, s6, s7, s8, s9, s10, s11, s12, s13, s14, s15⟩
        go_simp
        rfl
      simp only [Act.put, List.setIfInBounds_toArray, List.set_cons_zero, List.set_cons_succ]
    rw [mov_step]
    simp only [List.getElem?_toArray, List.getElem?_cons_succ, List.getElem?_cons_zero]
    go_wp2_with fail
    refine And.intro (fun h => absurd h (by omega)) ?_
    rw [wpMov]
    go_wp2_with fail
    go_ret
    exact ⟨rfl, hBd.trans (hbI.mono hBd.size)⟩
  · by_cases n2 : 2147483647 < n
    · have CB := Lib.hid (CB1.out (.inr n2))
      go_wp2_with fail
      refine (CB.out _).mono ?_
      rintro e WB ⟨rfl, hb⟩
      have hBB : Below w.heap.size w WB := hB8.trans (hb.mono hB8.size)
      have X0 := X0.ext hb
      have X7 := X7.ext hb
      have X8 := X8.ext hb
      have X9 := X9.ext hb
      have X10 := X10.ext hb
      have X11 := X11.ext hb
      have X14 := X14.ext hb
      clear hb hB8 f0 f1
      have zB := X14.lt
      go_upto_region 13 with (fail)
      have hBC : Below w.heap.size w (WB.alloc (.cells #[.int .u64 0, .int .u64 0] 24)) := hBB.alloc (by omega) _
      have X0 := X0.alloc (.cells #[.int .u64 0, .int .u64 0] 24)
      have X7 := X7.alloc (.cells #[.int .u64 0, .int .u64 0] 24)
      have X8 := X8.alloc (.cells #[.int .u64 0, .int .u64 0] 24)
      have X9 := X9.alloc (.cells #[.int .u64 0, .int .u64 0] 24)
      have X10 := X10.alloc (.cells #[.int .u64 0, .int .u64 0] 24)
      have X11 := X11.alloc (.cells #[.int .u64 0, .int .u64 0] 24)
      have X14 := X14.alloc (.cells #[.int .u64 0, .int .u64 0] 24)
      have X16 : Blk (WB.alloc (.cells #[.int .u64 0, .int .u64 0] 24)) WB.heap.size #[.int .u64 0, .int .u64 0] 24 := Blk.new _ _ _
      generalize WB.alloc (.cells #[.int .u64 0, .int .u64 0] 24) = WC at *
      clear hBB
      have CE := error_yes 1 WC (HE.out.ext hBC)
      rw [errV_ne (by decide)] at CE
      have CE := Lib.hid CE
      go_wp2_with fail
      refine (CE.out).mono ?_
      rintro e WD ⟨rfl, hb⟩
      have hBD : Below w.heap.size w WD := hBC.trans (hb.mono hBC.size)
      have X0 := X0.ext hb
      have X7 := X7.ext hb
      have X8 := X8.ext hb
      have X9 := X9.ext hb
      have X10 := X10.ext hb
      have X11 := X11.ext hb
      have X14 := X14.ext hb
      have X16 := X16.ext hb
      clear hb hBC CE
      go_wp2_with fail
      refine region_mov (S := fun w' => w'.cell? ⟨w.heap.size, 0, none⟩ = some (.int .u64 s) ∧ w'.cell? ⟨w.heap.size, 1, none⟩ = some (.int .u64 g) ∧ w'.cell? ⟨W2.heap.size, 0, none⟩ = some (.int .u64 t) ∧ w'.cell? ⟨W2.heap.size, 1, none⟩ = some (.int .u64 g) ∧ w'.cell? ⟨W4.heap.size, 0, none⟩ = some (.int .u64 u) ∧ w'.cell? ⟨W4.heap.size, 1, none⟩ = some (.int .u64 g) ∧ w'.cell? ⟨(W4.heap.size + 1), 0, none⟩ = some (.int .u64 X) ∧ w'.cell? ⟨(W4.heap.size + 1), 1, none⟩ = some (.int .u64 Z) ∧ w'.cell? ⟨W6.heap.size, 0, none⟩ = some (.int .u64 u) ∧ w'.cell? ⟨W6.heap.size, 1, none⟩ = some (.int .u64 g) ∧ w'.cell? ⟨(W6.heap.size + 1), 0, none⟩ = some (.int .u64 X) ∧ w'.cell? ⟨(W6.heap.size + 1), 1, none⟩ = some (.int .u64 Z) ∧ w'.cell? ⟨W7.heap.size, 0, none⟩ = some (.int .u64 0) ∧ w'.cell? ⟨W7.heap.size, 1, none⟩ = some (.int .u64 0) ∧ w'.cell? ⟨WB.heap.size, 0, none⟩ = some (.int .u64 0) ∧ w'.cell? ⟨WB.heap.size, 1, none⟩ = some (.int .u64 0)) (n := 46) (ms := [(true, 0), (true, 1), (true, 2), (true, 3), (false, 4), (true, 5), (false, 6), (true, 7), (true, 8), (true, 9), (true, 10), (true, 11), (false, 12), (true, 13), (true, 14), (true, 15), (true, 16), (true, 17), (true, 18), (true, 19), (true, 20), (true, 21), (true, 22), (true, 23), (true, 24), (true, 25), (true, 26), (true, 27), (true, 28), (true, 29), (true, 30), (true, 31), (true, 32), (true, 33), (true, 34), (true, 35), (true, 36), (true, 37), (true, 38), (true, 39), (true, 41), (true, 42), (true, 43), (false, 40), (true, 44), (true, 45), (false, 46)]) (hm := by kernel_rfl) (hB := by kernel_rfl) (hQ := fun c a d v w h => by cases d <;> exact h) ?_
      have hBd : Below w.heap.size w WD.drew := hBD.drew
      have HS : Hid (∀ W', Below WD.drew.heap.size WD.drew W' → (fun w' => w'.cell? ⟨w.heap.size, 0, none⟩ = some (.int .u64 s) ∧ w'.cell? ⟨w.heap.size, 1, none⟩ = some (.int .u64 g) ∧ w'.cell? ⟨W2.heap.size, 0, none⟩ = some (.int .u64 t) ∧ w'.cell? ⟨W2.heap.size, 1, none⟩ = some (.int .u64 g) ∧ w'.cell? ⟨W4.heap.size, 0, none⟩ = some (.int .u64 u) ∧ w'.cell? ⟨W4.heap.size, 1, none⟩ = some (.int .u64 g) ∧ w'.cell? ⟨(W4.heap.size + 1), 0, none⟩ = some (.int .u64 X) ∧ w'.cell? ⟨(W4.heap.size + 1), 1, none⟩ = some (.int .u64 Z) ∧ w'.cell? ⟨W6.heap.size, 0, none⟩ = some (.int .u64 u) ∧ w'.cell? ⟨W6.heap.size, 1, none⟩ = some (.int .u64 g) ∧ w'.cell? ⟨(W6.heap.size + 1), 0, none⟩ = some (.int .u64 X) ∧ w'.cell? ⟨(W6.heap.size + 1), 1, none⟩ = some (.int .u64 Z) ∧ w'.cell? ⟨W7.heap.size, 0, none⟩ = some (.int .u64 0) ∧ w'.cell? ⟨W7.heap.size, 1, none⟩ = some (.int .u64 0) ∧ w'.cell? ⟨WB.heap.size, 0, none⟩ = some (.int .u64 0) ∧ w'.cell? ⟨WB.heap.size, 1, none⟩ = some (.int .u64 0)) W') := fun W' h => ⟨((show Blk WD.drew _ _ _ from X0).ext h).cell 0, ((show Blk WD.drew _ _ _ from X0).ext h).cell 1, ((show Blk WD.drew _ _ _ from X7).ext h).cell 0, ((show Blk WD.drew _ _ _ from X7).ext h).cell 1, ((show Blk WD.drew _ _ _ from X8).ext h).cell 0, ((show Blk WD.drew _ _ _ from X8).ext h).cell 1, ((show Blk WD.drew _ _ _ from X9).ext h).cell 0, ((show Blk WD.drew _ _ _ from X9).ext h).cell 1, ((show Blk WD.drew _ _ _ from X10).ext h).cell 0, ((show Blk WD.drew _ _ _ from X10).ext h).cell 1, ((show Blk WD.drew _ _ _ from X11).ext h).cell 0, ((show Blk WD.drew _ _ _ from X11).ext h).cell 1, ((show Blk WD.drew _ _ _ from X14).ext h).cell 0, ((show Blk WD.drew _ _ _ from X14).ext h).cell 1, ((show Blk WD.drew _ _ _ from X16).ext h).cell 0, ((show Blk WD.drew _ _ _ from X16).ext h).cell 1⟩
      clear X0 X7 X8 X9 X10 X11 X14 X16 hBD
      generalize WD.drew = WE at *
      have hN := HN.out
      have hfd := fld_seed0
      have heq := eql_seed
      iterate 4
        rw [mov_take]
        simp only [List.getElem?_toArray, List.getElem?_cons_succ, List.getElem?_cons_zero]
        refine ⟨?_, .inl ⟨by rfl, ?_⟩, (HS.out _ (Below.refl _ _)), ?_⟩
        rotate_left
        · rintro w' ⟨s0, s1, s2, s3, s4, s5, s6, s7, s8, s9, s10, s11, s12, s13, s14, s15⟩
          go_simp
          rfl
        simp only [Act.put, List.setIfInBounds_toArray, List.set_cons_zero, List.set_cons_succ]
      rw [mov_step]
      simp only [List.getElem?_toArray, List.getElem?_cons_succ, List.getElem?_cons_zero]
      go_wp2_with fail
      refine (C1.out _).mono ?_
      rintro e WF ⟨rfl, hbF⟩
      go_wp2_with fail
      refine And.intro (fun _ => HS.out _ hbF) ?_
      iterate 1
        rw [mov_take]
        simp only [List.getElem?_toArray, List.getElem?_cons_succ, List.getElem?_cons_zero]
        refine ⟨?_, .inl ⟨by rfl, ?_⟩, (HS.out _ hbF), ?_⟩
        rotate_left
        · rintro w' ⟨s0, s1, s2, s3, s4, s5, s6, s7, s8, s9, s10, s11, s12, s13, s14, s15⟩
          go_simp
          rfl
        simp only [Act.put, List.setIfInBounds_toArray, List.set_cons_zero, List.set_cons_succ]
      rw [mov_step]
      simp only [List.getElem?_toArray, List.getElem?_cons_succ, List.getElem?_cons_zero]
      go_wp2_with fail
      refine (M1.out _).mono ?_
      rintro e WG ⟨rfl, rfl⟩
      go_wp2_with fail
      refine And.intro (fun _ => HS.out _ hbF) ?_
      iterate 5
        rw [mov_take]
        simp only [List.getElem?_toArray, List.getElem?_cons_succ, List.getElem?_cons_zero]
        refine ⟨?_, .inl ⟨by rfl, ?_⟩, (HS.out _ hbF), ?_⟩
        rotate_left
        · rintro w' ⟨s0, s1, s2, s3, s4, s5, s6, s7, s8, s9, s10, s11, s12, s13, s14, s15⟩
          go_simp
          rfl
        simp only [Act.put, List.setIfInBounds_toArray, List.set_cons_zero, List.set_cons_succ]
      rw [mov_step]
      simp only [List.getElem?_toArray, List.getElem?_cons_succ, List.getElem?_cons_zero]
      go_wp2_with fail
      refine (C1.out _).mono ?_
      rintro e WH ⟨rfl, hb⟩
      have hbH := hbF.trans (hb.mono hbF.size)
      clear hb
      go_wp2_with fail
      refine And.intro (fun _ => HS.out _ hbH) ?_
      iterate 30
        rw [mov_take]
        simp only [List.getElem?_toArray, List.getElem?_cons_succ, List.getElem?_cons_zero]
        refine ⟨?_, .inl ⟨by rfl, ?_⟩, (HS.out _ hbH), ?_⟩
        rotate_left
        · rintro w' ⟨s0, s1, s2, s3, s4, s5, s6, s7, s8, s9, s10, s11, s12, s13, s14, s15⟩
          go_simp
          rfl
        simp only [Act.put, List.setIfInBounds_toArray, List.set_cons_zero, List.set_cons_succ]
      rw [mov_step]
      simp only [List.getElem?_toArray, List.getElem?_cons_succ, List.getElem?_cons_zero]
      go_wp2_with fail
      refine (C5.out _).mono ?_
      rintro e WI ⟨rfl, hb⟩
      have hbI := hbH.trans (hb.mono hbH.size)
      clear hb
      go_wp2_with fail
      refine And.intro (fun _ => HS.out _ hbI) ?_
      iterate 2
        rw [mov_take]
        simp only [List.getElem?_toArray, List.getElem?_cons_succ, List.getElem?_cons_zero]
        refine ⟨?_, .inl ⟨by rfl, ?_⟩, (HS.out _ hbI), ?_⟩
        rotate_left
        · rintro w' ⟨s0, s1, s2, s3, s4, s5, s6, s7, s8, s9, s10, s11, s12, s13, s14, s15⟩
          go_simp
          rfl
        simp only [Act.put, List.setIfInBounds_toArray, List.set_cons_zero, List.set_cons_succ]
      rw [mov_step]
      simp only [List.getElem?_toArray, List.getElem?_cons_succ, List.getElem?_cons_zero]
      go_wp2_with fail
      refine And.intro (fun h => absurd h (by omega)) ?_
      rw [wpMov]
      go_wp2_with fail
      go_ret
      exact ⟨rfl, hBd.trans (hbI.mono hBd.size)⟩
    · have CG := Lib.hid (CB2.out (by omega) (by omega))
      have CR := Lib.hid CG.out.1
      have CB := Lib.hid CG.out.2
      go_wp2_with fail
      refine (CR.out _).mono ?_
      rintro e WX ⟨rfl, hb⟩
      have hBX : Below w.heap.size w WX := hB8.trans (hb.mono hB8.size)
      have X0 := X0.ext hb
      have X7 := X7.ext hb
      have X8 := X8.ext hb
      have X9 := X9.ext hb
      have X10 := X10.ext hb
      have X11 := X11.ext hb
      have X14 := X14.ext hb
      clear hb hB8 f0 f1
      have f0 := X0.cell 0
      have f1 := X0.cell 1
      simp only [List.getElem?_toArray, List.getElem?_cons_succ, List.getElem?_cons_zero] at f0 f1
      go_wp2_with fail
      refine (C1.out _).mono ?_
      rintro e WY ⟨rfl, hb⟩
      have hBY : Below w.heap.size w WY := hBX.trans (hb.mono hBX.size)
      have X0 := X0.ext hb
      have X7 := X7.ext hb
      have X8 := X8.ext hb
      have X9 := X9.ext hb
      have X10 := X10.ext hb
      have X11 := X11.ext hb
      have X14 := X14.ext hb
      clear hb hBX f0 f1
      have zY := X14.lt
      have u14 := X14.unfrozen
      have k0 := X14.cell 0
      have k1 := X14.cell 1
      simp only [List.getElem?_toArray, List.getElem?_cons_succ, List.getElem?_cons_zero] at k0 k1
      go_upto_region 12 with (fail)
      have q14 := (X14.set 0 (.int .u64 t)).set 1 (.int .u64 g)
      simp only [List.setIfInBounds_toArray, List.set_cons_zero, List.set_cons_succ] at q14
      have hB8 : Below w.heap.size w ((WY.setCell ⟨W7.heap.size, 0, none⟩ (.int .u64 t)).setCell ⟨W7.heap.size, 1, none⟩ (.int .u64 g)) := (hBY.setCell (by simp; omega) _).setCell (by simp; omega) _
      have X0 := (X0.oth W7.heap.size 0 (by omega) (.int .u64 t)).oth W7.heap.size 1 (by omega) (.int .u64 g)
      have X7 := (X7.oth W7.heap.size 0 (by omega) (.int .u64 t)).oth W7.heap.size 1 (by omega) (.int .u64 g)
      have X8 := (X8.oth W7.heap.size 0 (by omega) (.int .u64 t)).oth W7.heap.size 1 (by omega) (.int .u64 g)
      have X9 := (X9.oth W7.heap.size 0 (by omega) (.int .u64 t)).oth W7.heap.size 1 (by omega) (.int .u64 g)
      have X10 := (X10.oth W7.heap.size 0 (by omega) (.int .u64 t)).oth W7.heap.size 1 (by omega) (.int .u64 g)
      have X11 := (X11.oth W7.heap.size 0 (by omega) (.int .u64 t)).oth W7.heap.size 1 (by omega) (.int .u64 g)
      clear X14 u14 k0 k1 hBY
      have X14 := q14
      clear q14
      generalize (WY.setCell ⟨W7.heap.size, 0, none⟩ (.int .u64 t)).setCell ⟨W7.heap.size, 1, none⟩ (.int .u64 g) = W9 at *
      have f0 := X0.cell 0
      have f1 := X0.cell 1
      simp only [List.getElem?_toArray, List.getElem?_cons_succ, List.getElem?_cons_zero] at f0 f1
      go_wp2_with fail
      refine (CB.out _).mono ?_
      rintro e WB ⟨rfl, hb⟩
      have hBB : Below w.heap.size w WB := hB8.trans (hb.mono hB8.size)
      have X0 := X0.ext hb
      have X7 := X7.ext hb
      have X8 := X8.ext hb
      have X9 := X9.ext hb
      have X10 := X10.ext hb
      have X11 := X11.ext hb
      have X14 := X14.ext hb
      clear hb hB8 f0 f1
      have zB := X14.lt
      go_upto_region 13 with (fail)
      have hBC : Below w.heap.size w (WB.alloc (.cells #[.int .u64 t, .int .u64 g] 24)) := hBB.alloc (by omega) _
      have X0 := X0.alloc (.cells #[.int .u64 t, .int .u64 g] 24)
      have X7 := X7.alloc (.cells #[.int .u64 t, .int .u64 g] 24)
      have X8 := X8.alloc (.cells #[.int .u64 t, .int .u64 g] 24)
      have X9 := X9.alloc (.cells #[.int .u64 t, .int .u64 g] 24)
      have X10 := X10.alloc (.cells #[.int .u64 t, .int .u64 g] 24)
      have X11 := X11.alloc (.cells #[.int .u64 t, .int .u64 g] 24)
      have X14 := X14.alloc (.cells #[.int .u64 t, .int .u64 g] 24)
      have X16 : Blk (WB.alloc (.cells #[.int .u64 t, .int .u64 g] 24)) WB.heap.size #[.int .u64 t, .int .u64 g] 24 := Blk.new _ _ _
      generalize WB.alloc (.cells #[.int .u64 t, .int .u64 g] 24) = WC at *
      clear hBB
      have CE := error_yes 0 WC (HE.out.ext hBC)
      rw [errV_zero] at CE
      have CE := Lib.hid CE
      go_wp2_with fail
      refine (CE.out).mono ?_
      rintro e WD ⟨rfl, hb⟩
      have hBD : Below w.heap.size w WD := hBC.trans (hb.mono hBC.size)
      have X0 := X0.ext hb
      have X7 := X7.ext hb
      have X8 := X8.ext hb
      have X9 := X9.ext hb
      have X10 := X10.ext hb
      have X11 := X11.ext hb
      have X14 := X14.ext hb
      have X16 := X16.ext hb
      clear hb hBC CE
      go_wp2_with fail
      refine region_mov (S := fun w' => w'.cell? ⟨w.heap.size, 0, none⟩ = some (.int .u64 s) ∧ w'.cell? ⟨w.heap.size, 1, none⟩ = some (.int .u64 g) ∧ w'.cell? ⟨W2.heap.size, 0, none⟩ = some (.int .u64 t) ∧ w'.cell? ⟨W2.heap.size, 1, none⟩ = some (.int .u64 g) ∧ w'.cell? ⟨W4.heap.size, 0, none⟩ = some (.int .u64 u) ∧ w'.cell? ⟨W4.heap.size, 1, none⟩ = some (.int .u64 g) ∧ w'.cell? ⟨(W4.heap.size + 1), 0, none⟩ = some (.int .u64 X) ∧ w'.cell? ⟨(W4.heap.size + 1), 1, none⟩ = some (.int .u64 Z) ∧ w'.cell? ⟨W6.heap.size, 0, none⟩ = some (.int .u64 u) ∧ w'.cell? ⟨W6.heap.size, 1, none⟩ = some (.int .u64 g) ∧ w'.cell? ⟨(W6.heap.size + 1), 0, none⟩ = some (.int .u64 X) ∧ w'.cell? ⟨(W6.heap.size + 1), 1, none⟩ = some (.int .u64 Z) ∧ w'.cell? ⟨W7.heap.size, 0, none⟩ = some (.int .u64 t) ∧ w'.cell? ⟨W7.heap.size, 1, none⟩ = some (.int .u64 g) ∧ w'.cell? ⟨WB.heap.size, 0, none⟩ = some (.int .u64 t) ∧ w'.cell? ⟨WB.heap.size, 1, none⟩ = some (.int .u64 g)) (n := 46) (ms := [(true, 0), (true, 1), (true, 2), (true, 3), (false, 4), (true, 5), (false, 6), (true, 7), (true, 8), (true, 9), (true, 10), (true, 11), (false, 12), (true, 13), (true, 14), (true, 15), (true, 16), (true, 17), (true, 18), (true, 19), (true, 20), (true, 21), (true, 22), (true, 23), (true, 24), (true, 25), (true, 26), (true, 27), (true, 28), (true, 29), (true, 30), (true, 31), (true, 32), (true, 33), (true, 34), (true, 35), (true, 36), (true, 37), (true, 38), (true, 39), (true, 41), (true, 42), (true, 43), (false, 40), (true, 44), (true, 45), (false, 46)]) (hm := by kernel_rfl) (hB := by kernel_rfl) (hQ := fun c a d v w h => by cases d <;> exact h) ?_
      have hBd : Below w.heap.size w WD.drew := hBD.drew
      have HS : Hid (∀ W', Below WD.drew.heap.size WD.drew W' → (fun w' => w'.cell? ⟨w.heap.size, 0, none⟩ = some (.int .u64 s) ∧ w'.cell? ⟨w.heap.size, 1, none⟩ = some (.int .u64 g) ∧ w'.cell? ⟨W2.heap.size, 0, none⟩ = some (.int .u64 t) ∧ w'.cell? ⟨W2.heap.size, 1, none⟩ = some (.int .u64 g) ∧ w'.cell? ⟨W4.heap.size, 0, none⟩ = some (.int .u64 u) ∧ w'.cell? ⟨W4.heap.size, 1, none⟩ = some (.int .u64 g) ∧ w'.cell? ⟨(W4.heap.size + 1), 0, none⟩ = some (.int .u64 X) ∧ w'.cell? ⟨(W4.heap.size + 1), 1, none⟩ = some (.int .u64 Z) ∧ w'.cell? ⟨W6.heap.size, 0, none⟩ = some (.int .u64 u) ∧ w'.cell? ⟨W6.heap.size, 1, none⟩ = some (.int .u64 g) ∧ w'.cell? ⟨(W6.heap.size + 1), 0, none⟩ = some (.int .u64 X) ∧ w'.cell? ⟨(W6.heap.size + 1), 1, none⟩ = some (.int .u64 Z) ∧ w'.cell? ⟨W7.heap.size, 0, none⟩ = some (.int .u64 t) ∧ w'.cell? ⟨W7.heap.size, 1, none⟩ = some (.int .u64 g) ∧ w'.cell? ⟨WB.heap.size, 0, none⟩ = some (.int .u64 t) ∧ w'.cell? ⟨WB.heap.size, 1, none⟩ = some (.int .u64 g)) W') := fun W' h => ⟨((show Blk WD.drew _ _ _ from X0).ext h).cell 0, ((show Blk WD.drew _ _ _ from X0).ext h).cell 1, ((show Blk WD.drew _ _ _ from X7).ext h).cell 0, ((show Blk WD.drew _ _ _ from X7).ext h).cell 1, ((show Blk WD.drew _ _ _ from X8).ext h).cell 0, ((show Blk WD.drew _ _ _ from X8).ext h).cell 1, ((show Blk WD.drew _ _ _ from X9).ext h).cell 0, ((show Blk WD.drew _ _ _ from X9).ext h).cell 1, ((show Blk WD.drew _ _ _ from X10).ext h).cell 0, ((show Blk WD.drew _ _ _ from X10).ext h).cell 1, ((show Blk WD.drew _ _ _ from X11).ext h).cell 0, ((show Blk WD.drew _ _ _ from X11).ext h).cell 1, ((show Blk WD.drew _ _ _ from X14).ext h).cell 0, ((show Blk WD.drew _ _ _ from X14).ext h).cell 1, ((show Blk WD.drew _ _ _ from X16).ext h).cell 0, ((show Blk WD.drew _ _ _ from X16).ext h).cell 1⟩
      clear X0 X7 X8 X9 X10 X11 X14 X16 hBD
      generalize WD.drew = WE at *
      have hN := HN.out
      have hfd := fld_seed0
      have heq := eql_seed
      iterate 4
        rw [mov_take]
        simp only [List.getElem?_toArray, List.getElem?_cons_succ, List.getElem?_cons_zero]
        refine ⟨?_, .inl ⟨by rfl, ?_⟩, (HS.out _ (Below.refl _ _)), ?_⟩
        rotate_left
        · rintro w' ⟨s0, s1, s2, s3, s4, s5, s6, s7, s8, s9, s10, s11, s12, s13, s14, s15⟩
          go_simp
          rfl
        simp only [Act.put, List.setIfInBounds_toArray, List.set_cons_zero, List.set_cons_succ]
      rw [mov_step]
      simp only [List.getElem?_toArray, List.getElem?_cons_succ, List.getElem?_cons_zero]
      go_wp2_with fail
      refine (C1.out _).mono ?_
      rintro e WF ⟨rfl, hbF⟩
      go_wp2_with fail
      refine And.intro (fun _ => HS.out _ hbF) ?_
      iterate 1
        rw [mov_take]
        simp only [List.getElem?_toArray, List.getElem?_cons_succ, List.getElem?_cons_zero]
        refine ⟨?_, .inl ⟨by rfl, ?_⟩, (HS.out _ hbF), ?_⟩
        rotate_left
        · rintro w' ⟨s0, s1, s2, s3, s4, s5, s6, s7, s8, s9, s10, s11, s12, s13, s14, s15⟩
          go_simp
          rfl
        simp only [Act.put, List.setIfInBounds_toArray, List.set_cons_zero, List.set_cons_succ]
      rw [mov_step]
      simp only [List.getElem?_toArray, List.getElem?_cons_succ, List.getElem?_cons_zero]
      go_wp2_with fail
      refine (M1.out _).mono ?_
      rintro e WG ⟨rfl, rfl⟩
      go_wp2_with fail
      refine And.intro (fun _ => HS.out _ hbF) ?_
      iterate 5
        rw [mov_take]
        simp only [List.getElem?_toArray, List.getElem?_cons_succ, List.getElem?_cons_zero]
        refine ⟨?_, .inl ⟨by rfl, ?_⟩, (HS.out _ hbF), ?_⟩
        rotate_left
        · rintro w' ⟨s0, s1, s2, s3, s4, s5, s6, s7, s8, s9, s10, s11, s12, s13, s14, s15⟩
          go_simp
          rfl
        simp only [Act.put, List.setIfInBounds_toArray, List.set_cons_zero, List.set_cons_succ]
      rw [mov_step]
      simp only [List.getElem?_toArray, List.getElem?_cons_succ, List.getElem?_cons_zero]
      go_wp2_with fail
      refine (C1.out _).mono ?_
      rintro e WH ⟨rfl, hb⟩
      have hbH := hbF.trans (hb.mono hbF.size)
      clear hb
      go_wp2_with fail
      refine And.intro (fun _ => HS.out _ hbH) ?_
      iterate 30
        rw [mov_take]
        simp only [List.getElem?_toArray, List.getElem?_cons_succ, List.getElem?_cons_zero]
        refine ⟨?_, .inl ⟨by rfl, ?_⟩, (HS.out _ hbH), ?_⟩
        rotate_left
        · rintro w' ⟨s0, s1, s2, s3, s4, s5, s6, s7, s8, s9, s10, s11, s12, s13, s14, s15⟩
          go_simp
          rfl
        simp only [Act.put, List.setIfInBounds_toArray, List.set_cons_zero, List.set_cons_succ]
      rw [mov_step]
      simp only [List.getElem?_toArray, List.getElem?_cons_succ, List.getElem?_cons_zero]
      go_wp2_with fail
      refine (C5.out _).mono ?_
      rintro e WI ⟨rfl, hb⟩
      have hbI := hbH.trans (hb.mono hbH.size)
      clear hb
      go_wp2_with fail
      refine And.intro (fun _ => HS.out _ hbI) ?_
      iterate 2
        rw [mov_take]
        simp only [List.getElem?_toArray, List.getElem?_cons_succ, List.getElem?_cons_zero]
        refine ⟨?_, .inl ⟨by rfl, ?_⟩, (HS.out _ hbI), ?_⟩
        rotate_left
        · rintro w' ⟨s0, s1, s2, s3, s4, s5, s6, s7, s8, s9, s10, s11, s12, s13, s14, s15⟩
          go_simp
          rfl
        simp only [Act.put, List.setIfInBounds_toArray, List.set_cons_zero, List.set_cons_succ]
      rw [mov_step]
      simp only [List.getElem?_toArray, List.getElem?_cons_succ, List.getElem?_cons_zero]
      go_wp2_with fail
      refine And.intro (fun h => absurd h (by omega)) ?_
      rw [wpMov]
      go_wp2_with fail
      go_ret
      exact ⟨rfl, hBd.trans (hbI.mono hBd.size)⟩
theorem rngTells_go {v0 v1 : Value} (w : World) (hE : ErrTypeAt w) (x0 : Nat × Nat) (o0 : SeedAt v0 x0) (n : Int) (o1 : IntAt v1 n) :
    Calls Tryd.prog 3 #[v0, v1] w fun e w' => e = .returned (.bool true) ∧ Below w.heap.size w w' := by
  obtain ⟨rfl, h1, h2⟩ := o0
  obtain ⟨rfl, h3⟩ := o1
  obtain ⟨s, g⟩ := x0
  exact rngTells_aux s g _ _ _ _ (n % 18446744073709551616).toNat (PRng.below s g n.toNat) n w hE (toNat_wrap64 n)
    (Lib.hid (rmix_any _ (Nat.mod_lt _ (by decide)))) (Lib.hid (rstep_any s g)) (Lib.hid (next_any s g)) (Lib.hid (split_any s g)) (Lib.hid (rsplit_any s g))
    (Lib.hid (fun hn w => below_no s g n hn w))
    (Lib.hid (fun q1 q2 => by
      obtain ⟨m, rfl⟩ : ∃ m : Nat, n = (m : Int) := ⟨n.toNat, by omega⟩
      exact ⟨fun w => rbelow_any s g m (by omega) w, fun w => below_yes s g m (by omega) (by omega) w⟩))
    (Lib.hid (new_any n))
end Go.Proofs.YtedpdnicalboiaaDoor
