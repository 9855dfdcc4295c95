/- The walks through package rng. -/
import Derived.Test.YtibmnifenfingaaGreatDoorProg
import Derived.Test.YtibmnifenfingaaGreatDoorPA
import Derived.Test.YtibmnifenfingaaGreatDoorBase
namespace Go.Proofs.YtibmnifenfingaaGreatDoor
set_option maxRecDepth 100000
open Go.RowKit
set_option linter.unusedSimpArgs false
set_option linter.unusedVariables false

theorem mix_form3 (b : Nat) (hb : b < 18446744073709551616) : bits .xor .u64 (b : Int) ((b : Int) / 2147483648) = ((b ^^^ b / 2147483648 : Nat) : Int) := by
  have h3 := xorShift_u64 b 2147483648 hb
  have e5 : ((2147483648 : Nat) : Int) = 2147483648 := rfl
  rw [e5] at h3
  exact h3
theorem mix_form2 (a : Nat) (ha : a < 18446744073709551616) :
    bits .xor .u64 (IntKind.u64.wrap (bits .xor .u64 (a : Int) ((a : Int) / 134217728) * 10723151780598845931))
      (IntKind.u64.wrap (bits .xor .u64 (a : Int) ((a : Int) / 134217728) * 10723151780598845931) / 2147483648)
      = ((((a ^^^ a / 134217728) * 10723151780598845931 % 18446744073709551616) ^^^ ((a ^^^ a / 134217728) * 10723151780598845931 % 18446744073709551616) / 2147483648 : Nat) : Int) := by
  have h2 := mixStep_u64 a 134217728 10723151780598845931 ha
  have e3 : ((134217728 : Nat) : Int) = 134217728 := rfl
  have e4 : ((10723151780598845931 : Nat) : Int) = 10723151780598845931 := rfl
  rw [e3, e4] at h2
  rw [h2]
  exact mix_form3 _ (Nat.mod_lt _ (by decide))
theorem mix_form (z : Nat) (hz : z < 18446744073709551616) :
    bits .xor .u64 (IntKind.u64.wrap (bits .xor .u64 (IntKind.u64.wrap (bits .xor .u64 (z : Int) ((z : Int) / 1073741824) * 13787848793156543929)) (IntKind.u64.wrap (bits .xor .u64 (z : Int) ((z : Int) / 1073741824) * 13787848793156543929) / 134217728) * 10723151780598845931))
      (IntKind.u64.wrap (bits .xor .u64 (IntKind.u64.wrap (bits .xor .u64 (z : Int) ((z : Int) / 1073741824) * 13787848793156543929)) (IntKind.u64.wrap (bits .xor .u64 (z : Int) ((z : Int) / 1073741824) * 13787848793156543929) / 134217728) * 10723151780598845931) / 2147483648)
      = ((PRng.mix z : Nat) : Int) := by
  have h1 := mixStep_u64 z 1073741824 13787848793156543929 hz
  have e1 : ((1073741824 : Nat) : Int) = 1073741824 := rfl
  have e2 : ((13787848793156543929 : Nat) : Int) = 13787848793156543929 := rfl
  rw [e1, e2] at h1
  rw [h1]
  exact mix_form2 _ (Nat.mod_lt _ (by decide))

theorem mix_any (z : Nat) (hz : z < 18446744073709551616) (w : World) :
    Calls Tryz.prog 71 #[.int .u64 z] w fun e w' => e = .returned (.int .u64 (PRng.mix z : Nat)) ∧ w = w' := by
  have H := Lib.hid (mix_form z hz)
  go_enter Tryz.func71, Tryz.ntmps71
  go_wp2
  go_ret
  refine ⟨?_, rfl⟩
  have h := H.out
  simp only [Array.getD, List.size_toArray]
  exact congrArg (fun n => Ending.returned (.int .u64 n)) h

set_option maxHeartbeats 400000 in
theorem next_any (s g : Nat) (w : World) :
    Calls Tryz.prog 50 #[.agg #[.int .u64 s, .int .u64 g]] w fun e w' => e = .returned (.tuple #[.int .u64 (PRng.mix ((s + g) % 18446744073709551616) : Nat), .agg #[.int .u64 ((s + g) % 18446744073709551616 : Nat), .int .u64 g]]) ∧ Below w.heap.size w w' := by
  have ha := add64 s g
  have hlt : (s + g) % 18446744073709551616 < 18446744073709551616 := Nat.mod_lt _ (by decide)
  generalize (s + g) % 18446744073709551616 = t at *
  go_enter Tryz.func50, Tryz.ntmps50
  go_wp2_with fail
  refine region_still_tail 5 (by kernel_rfl) (by kernel_rfl) ?_
  simp only [List.take_succ_cons, List.take_zero, List.drop_succ_cons, List.drop_zero]
  still_step
  still_step
  still_call ((mix_any t hlt _).mono fun e w' h => ⟨h.1, h.2.symm⟩)
  still_step
  still_step
  refine wpStill_nil ?_
  go_wp2
  refine bodyPost_ret (v := .tuple #[.int .u64 (PRng.mix t), .agg #[.int .u64 t, .int .u64 g]]) (by simp [results, Tryz.results50, go_sem]) rfl ⟨rfl, ?_⟩
  exact (((Below.refl _ _).alloc (Nat.le_refl _) _).alloc (by simp) _).drew

set_option maxHeartbeats 400000 in
theorem below_no (s g n : Int) (hn : n < 1 ∨ 2147483647 < n) (w : World) :
    Calls Tryz.prog 52 #[.agg #[.int .u64 s, .int .u64 g], .int .i64 n] w fun e w' => e = .returned (.tuple #[.int .i64 0, .agg #[.int .u64 0, .int .u64 0], .iface 29 (.int .i64 1)]) ∧ Below w.heap.size w w' := by
  rcases hn with hn | hn
  · go_enter Tryz.func52, Tryz.ntmps52
    go_wp2_with fail
    refine bodyPost_ret (v := .tuple #[.int .i64 0, .agg #[.int .u64 0, .int .u64 0], .iface 29 (.int .i64 1)]) (by simp [results, Tryz.results52, go_sem]) rfl ⟨rfl, ?_⟩
    exact ((Below.refl _ _).alloc (Nat.le_refl _) _).alloc (by simp) _
  · have hn2 : ¬ n < 1 := by omega
    go_enter Tryz.func52, Tryz.ntmps52
    go_wp2_with fail
    refine bodyPost_ret (v := .tuple #[.int .i64 0, .agg #[.int .u64 0, .int .u64 0], .iface 29 (.int .i64 1)]) (by simp [results, Tryz.results52, go_sem]) rfl ⟨rfl, ?_⟩
    exact ((Below.refl _ _).alloc (Nat.le_refl _) _).alloc (by simp) _
set_option maxHeartbeats 400000 in
theorem below_yes (s g n : Nat) (h1 : 1 ≤ n) (h2 : n ≤ 2147483647) (w : World) :
    Calls Tryz.prog 52 #[.agg #[.int .u64 s, .int .u64 g], .int .i64 n] w fun e w' => e = .returned (.tuple #[.int .i64 (PRng.below s g n : Nat), .agg #[.int .u64 ((s + g) % 18446744073709551616 : Nat), .int .u64 g], .nilIface]) ∧ Below w.heap.size w w' := by
  have C1 := Lib.hid (next_any s g)
  have hX := PRng.mix_lt ((s + g) % 18446744073709551616)
  unfold PRng.below
  generalize (s + g) % 18446744073709551616 = t at *
  generalize PRng.mix t = X at *
  have hd : X / 4294967296 ≤ 4294967295 := by omega
  have hm : X / 4294967296 * n ≤ 4294967295 * 2147483647 := Nat.mul_le_mul hd h2
  have hm2 : (X : Int) / 4294967296 * (n : Int) ≤ 9223372032559808512 := by
    have : ((X / 4294967296 * n : Nat) : Int) ≤ ((4294967295 * 2147483647 : Nat) : Int) := Int.ofNat_le.2 hm
    simp only [Int.natCast_mul, Int.natCast_ediv] at this
    have e : ((4294967296 : Nat) : Int) = 4294967296 := rfl
    rw [e] at this
    omega
  have hm0 : 0 ≤ (X : Int) / 4294967296 * (n : Int) := Int.mul_nonneg (Int.ediv_nonneg (by omega) (by omega)) (by omega)
  have wn : IntKind.u64.wrap (n : Int) = (n : Int) := IntWalk.u64_in _ ⟨by omega, by omega⟩
  have wm : IntKind.u64.wrap ((X : Int) / 4294967296 * (n : Int)) = (X : Int) / 4294967296 * (n : Int) := IntWalk.u64_in _ ⟨by omega, by omega⟩
  have wd : IntKind.i64.wrap ((X : Int) / 4294967296 * (n : Int) / 4294967296) = ((X / 4294967296 * n / 4294967296 : Nat) : Int) := by
    have hfin : (((X / 4294967296 * n / 4294967296 : Nat) : Int)) = (X : Int) / 4294967296 * (n : Int) / 4294967296 := by
      simp only [Int.natCast_mul, Int.natCast_ediv]; rfl
    rw [hfin]
    exact IntWalk.i64_in _ ⟨by omega, by omega⟩
  have WD := Lib.hid wd
  clear wd hm hm2 hm0 hX hd
  generalize (X / 4294967296 * n / 4294967296 : Nat) = R at *
  have hn1 : ¬ (n : Int) < 1 := by omega
  have hn2 : ¬ 2147483647 < (n : Int) := by omega
  go_enter Tryz.func52, Tryz.ntmps52
  go_wp2_with fail
  refine (C1.out _).mono ?_
  rintro e w1 ⟨rfl, hb1⟩
  have b0 : Blk w1 w.heap.size #[.int .u64 s, .int .u64 g] 57 := ((Blk.new w _ _).alloc _).ext hb1
  have b1 : Blk w1 (w.heap.size + 1) #[.int .u64 0, .int .u64 0] 57 := by simpa using (Blk.new (w.alloc _) _ _).ext hb1
  have hB : Below w.heap.size w w1 := ((Below.refl _ _).alloc (Nat.le_refl _) _).alloc (by simp) _ |>.trans (hb1.mono (by simp; omega))
  clear hb1
  have c00 : w1.cell? ⟨w.heap.size, 0, none⟩ = some (.int .u64 s) := b0.cell 0
  have c01 : w1.cell? ⟨w.heap.size, 1, none⟩ = some (.int .u64 g) := b0.cell 1
  have f0 := b0.unfrozen
  have c10 : w1.cell? ⟨w.heap.size + 1, 0, none⟩ = some (.int .u64 0) := b1.cell 0
  have c11 : w1.cell? ⟨w.heap.size + 1, 1, none⟩ = some (.int .u64 0) := b1.cell 1
  have f1 := b1.unfrozen
  go_wp2_with fail
  refine region_still_tail 9 (by kernel_rfl) (by kernel_rfl) ?_
  simp only [List.take_succ_cons, List.take_zero, List.drop_succ_cons, List.drop_zero]
  iterate 9 still_step
  refine wpStill_nil ?_
  go_wp2_with fail
  refine bodyPost_ret (v := .tuple #[.int .i64 (IntKind.i64.wrap ((X : Int) / 4294967296 * (n : Int) / 4294967296)), .agg #[.int .u64 t, .int .u64 g], .nilIface]) (by simp [results, Tryz.results52, go_sem, c00, c01, f0, c10, c11, f1]) rfl ⟨by rw [WD.out], ?_⟩
  refine ((((hB.setCell ?_ _).setCell ?_ _).setCell ?_ _).setCell ?_ _).drew
  all_goals (simp <;> omega)
end Go.Proofs.YtibmnifenfingaaGreatDoor
