/- The walks through package rng: a new seed, a split one. -/
import Derived.Test.YtibmnifenfingaaGreatDoorRng
namespace Go.Proofs.YtibmnifenfingaaGreatDoor
set_option maxRecDepth 100000
open Go.RowKit
set_option linter.unusedSimpArgs false
set_option linter.unusedVariables false

set_option maxHeartbeats 400000 in
theorem new_any (n : Int) (w : World) :
    Calls Tryz.prog 25 #[.int .i64 n] w fun e w' => e = .returned (.agg #[.int .u64 ((n % 18446744073709551616).toNat : Nat), .int .u64 11400714819323198485]) ∧ Below w.heap.size w w' := by
  go_enter Tryz.func25, Tryz.ntmps25
  go_wp2
  refine bodyPost_ret (v := .agg #[.int .u64 (IntKind.u64.wrap n), .int .u64 11400714819323198485]) (by simp [results, Tryz.results25, go_sem]) rfl ⟨by rw [toNat_wrap64], ?_⟩
  exact (Below.refl _ _).alloc (Nat.le_refl _) _
theorem new_zero (w : World) :
    Calls Tryz.prog 25 #[.int .i64 0] w fun e w' => e = .returned (.agg #[.int .u64 0, .int .u64 11400714819323198485]) ∧ Below w.heap.size w w' := new_any 0 w
theorem next_zero (w : World) :
    Calls Tryz.prog 50 #[.agg #[.int .u64 0, .int .u64 11400714819323198485]] w fun e w' => e = .returned (.tuple #[.int .u64 16294208416658607535, .agg #[.int .u64 11400714819323198485, .int .u64 11400714819323198485]]) ∧ Below w.heap.size w w' := by
  have h := next_any 0 11400714819323198485 w
  have e : (0 + 11400714819323198485) % 18446744073709551616 = 11400714819323198485 := by decide
  rw [e, PRng.mix_known] at h
  exact h
set_option maxHeartbeats 400000 in
theorem split_any (s g : Nat) (w : World) :
    Calls Tryz.prog 26 #[.agg #[.int .u64 s, .int .u64 g]] w fun e w' => e = .returned (.tuple #[.agg #[.int .u64 (((s + g) % 18446744073709551616 + g) % 18446744073709551616 : Nat), .int .u64 g],
       .agg #[.int .u64 (PRng.mix ((s + g) % 18446744073709551616) : Nat), .int .u64 (PRng.mix (((s + g) % 18446744073709551616 + g) % 18446744073709551616) ||| 1 : Nat)]]) ∧ Below w.heap.size w w' := by
  have hor := bits_or_u64_nat (PRng.mix (((s + g) % 18446744073709551616 + g) % 18446744073709551616)) 1 (PRng.mix_lt _) (by decide)
  have C1 := Lib.hid (next_any s g)
  have C2 := Lib.hid (next_any ((s + g) % 18446744073709551616) g)
  generalize (s + g) % 18446744073709551616 = t at *
  generalize (t + g) % 18446744073709551616 = u at *
  have e1 : ((1 : Nat) : Int) = 1 := rfl
  rw [e1] at hor
  clear e1
  generalize hX : PRng.mix t = X at *
  generalize hY : PRng.mix u = Y at *
  generalize (Y ||| 1) = Z at *
  clear hX hY
  go_enter Tryz.func26, Tryz.ntmps26
  go_wp2_with fail
  refine (C1.out _).mono ?_
  rintro e w1 ⟨rfl, hb1⟩
  have b0 : Blk w1 w.heap.size #[.int .u64 s, .int .u64 g] 57 := (((Blk.new w _ _).alloc _).alloc _).ext hb1
  have b1 : Blk w1 (w.heap.size + 1) #[.int .u64 0, .int .u64 0] 57 := by simpa using ((Blk.new (w.alloc _) _ _).alloc _).ext hb1
  have b2 : Blk w1 (w.heap.size + 1 + 1) #[.int .u64 0, .int .u64 0] 57 := by simpa using (Blk.new ((w.alloc _).alloc _) _ _).ext hb1
  have hB : Below w.heap.size w w1 := (((Below.refl _ _).alloc (Nat.le_refl _) _).alloc (by simp) _).alloc (by simp; omega) _ |>.trans (hb1.mono (by simp; omega))
  clear hb1
  have c00 : w1.cell? ⟨w.heap.size, 0, none⟩ = some (.int .u64 s) := b0.cell 0
  have c01 : w1.cell? ⟨w.heap.size, 1, none⟩ = some (.int .u64 g) := b0.cell 1
  have f0 := b0.unfrozen
  go_wp2_with fail
  refine (C2.out _).mono ?_
  rintro e w2 ⟨rfl, hb2⟩
  have d0 : Blk w2 w.heap.size #[.int .u64 t, .int .u64 g] 57 := ((b0.set 0 (.int .u64 t)).set 1 (.int .u64 g)).ext hb2
  have d1 : Blk w2 (w.heap.size + 1) #[.int .u64 0, .int .u64 0] 57 := ((b1.oth w.heap.size 0 (by omega) (.int .u64 t)).oth w.heap.size 1 (by omega) (.int .u64 g)).ext hb2
  have d2 : Blk w2 (w.heap.size + 1 + 1) #[.int .u64 0, .int .u64 0] 57 := ((b2.oth w.heap.size 0 (by omega) (.int .u64 t)).oth w.heap.size 1 (by omega) (.int .u64 g)).ext hb2
  have hB2 : Below w.heap.size w w2 := ((hB.setCell (by simp) _).setCell (by simp) _).trans (hb2.mono (by simp; have := b0.lt; omega))
  clear hb2 c00 c01 f0 hB b0 b1 b2
  have c00 : w2.cell? ⟨w.heap.size, 0, none⟩ = some (.int .u64 t) := d0.cell 0
  have c01 : w2.cell? ⟨w.heap.size, 1, none⟩ = some (.int .u64 g) := d0.cell 1
  have f0 := d0.unfrozen
  have c10 : w2.cell? ⟨w.heap.size + 1, 0, none⟩ = some (.int .u64 0) := d1.cell 0
  have c11 : w2.cell? ⟨w.heap.size + 1, 1, none⟩ = some (.int .u64 0) := d1.cell 1
  have f1 := d1.unfrozen
  have c20 : w2.cell? ⟨w.heap.size + 1 + 1, 0, none⟩ = some (.int .u64 0) := d2.cell 0
  have c21 : w2.cell? ⟨w.heap.size + 1 + 1, 1, none⟩ = some (.int .u64 0) := d2.cell 1
  have f2 := d2.unfrozen
  clear d0 d1 d2
  go_wp2_with fail
  refine bodyPost_ret (v := .tuple #[.agg #[.int .u64 u, .int .u64 g], .agg #[.int .u64 X, .int .u64 Z]]) (by simp [results, Tryz.results26, go_sem, c00, c01, f0, c10, c11, f1, c20, c21, f2]) rfl ⟨rfl, ?_⟩
  refine (((((hB2.setCell ?_ _).setCell ?_ _).setCell ?_ _).setCell ?_ _).setCell ?_ _).setCell ?_ _
  all_goals (simp <;> omega)

end Go.Proofs.YtibmnifenfingaaGreatDoor
