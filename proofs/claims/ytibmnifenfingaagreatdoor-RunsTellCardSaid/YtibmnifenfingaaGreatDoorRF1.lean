/- The walks through the document's answers on random numbers. -/
import Derived.Test.YtibmnifenfingaaGreatDoorRng
import Derived.Test.YtibmnifenfingaaGreatDoorREG
import Derived.Laws.StructEq
import Derived.Deep.DeepCutAuto
import Derived.StillTailTactics
namespace Go.Proofs.YtibmnifenfingaaGreatDoor
set_option maxRecDepth 100000
open Go.RowKit
set_option linter.unusedSimpArgs false
set_option linter.unusedVariables false
theorem rmix_any (z : Nat) (hz : z < 18446744073709551616) (w : World) :
    Calls Tryz.prog 40 #[.int .u64 z] w fun e w' => e = .returned (.int .u64 (PRng.mix z : Nat)) ∧ w = w' := by
  have H := Lib.hid (mix_form z hz)
  go_enter Tryz.func40, Tryz.ntmps40
  go_wp2
  go_ret
  refine ⟨?_, rfl⟩
  have h := H.out
  simp only [Array.getD, List.size_toArray]
  exact congrArg (fun n => Ending.returned (.int .u64 n)) h
set_option maxHeartbeats 400000 in
theorem rstep_any (s g : Nat) (w : World) :
    Calls Tryz.prog 39 #[.agg #[.int .u64 s, .int .u64 g]] w fun e w' => e = .returned (.agg #[.int .u64 ((s + g) % 18446744073709551616 : Nat), .int .u64 g]) ∧ Below w.heap.size w w' := by
  have ha := add64 s g
  generalize (s + g) % 18446744073709551616 = t at *
  go_enter Tryz.func39, Tryz.ntmps39
  go_wp2_with fail
  refine bodyPost_ret (v := .agg #[.int .u64 t, .int .u64 g]) (by simp [results, Tryz.results39, go_sem, ha]) rfl ⟨rfl, ?_⟩
  repeat (first | with_reducible assumption | with_reducible exact Below.refl _ _ | with_reducible apply Below.drew | (with_reducible refine Below.alloc ?_ (by first | omega | (simp only [zA, zS, zD, zN]; omega) | (dsimp only; omega) | (simp only [zA, zS, zD, zN]; dsimp only; omega)) _) | (with_reducible refine Below.setCell ?_ (by first | omega | (simp only [zA, zS, zD, zN]; omega) | (dsimp only; omega) | (simp only [zA, zS, zD, zN]; dsimp only; omega)) _) | (with_reducible apply below_drewN))
/-- A seed's first field. -/
theorem fld_seed0 (a b : Int) (w : World) : (Instr.field 57 (.agg #[.int .u64 a, .int .u64 b]) 0).run Tryz.prog w = .ok (.int .u64 a) w := by kernel_rfl
/-- Are two seeds the same? -/
theorem eql_seed (a b c d : Int) (w : World) : (binOp .eql 57 (.agg #[.int .u64 a, .int .u64 b]) (.agg #[.int .u64 c, .int .u64 d])).run Tryz.prog w = .ok (.bool (a == c && b == d)) w := by
  have h : (Op.equalIn 10000 57 (.agg #[.int .u64 a, .int .u64 b]) (.agg #[.int .u64 c, .int .u64 d])).run Tryz.prog w = .ok (a == c && b == d) w := by
    rw [show (10000 : Nat) = 9999 + 1 from rfl, run_equalIn_struct w 9999 57 _ _ (by kernel_rfl) (by kernel_rfl)]
    by_cases h : a = c
    · subst h
      by_cases h2 : b = d
      · simp [go_sem, h2]
      · simp [go_sem, h2]
    · simp [go_sem, h]
  rw [run_eql_struct, h]
  rfl
set_option maxHeartbeats 400000 in
theorem rbelow_any (s g n : Nat) (h2 : n ≤ 2147483647) (w : World) :
    Calls Tryz.prog 42 #[.agg #[.int .u64 s, .int .u64 g], .int .i64 n] w fun e w' => e = .returned (.int .i64 (PRng.below s g n : Nat)) ∧ Below w.heap.size w w' := by
  have C1 := Lib.hid (rstep_any s g)
  have ht : (s + g) % 18446744073709551616 < 18446744073709551616 := Nat.mod_lt _ (by decide)
  have hX := PRng.mix_lt ((s + g) % 18446744073709551616)
  unfold PRng.below
  generalize (s + g) % 18446744073709551616 = t at *
  have M1 := Lib.hid (rmix_any t ht)
  clear ht
  generalize PRng.mix t = X at *
  have hd : X / 4294967296 ≤ 4294967295 := by omega
  have hm : X / 4294967296 * n ≤ 4294967295 * 2147483647 := Nat.mul_le_mul hd h2
  have hm2 : (X : Int) / 4294967296 * (n : Int) ≤ 9223372032559808512 := by
    have : ((X / 4294967296 * n : Nat) : Int) ≤ ((4294967295 * 2147483647 : Nat) : Int) := Int.ofNat_le.2 hm
    simp only [Int.natCast_mul, Int.natCast_ediv] at this
    have e : ((4294967296 : Nat) : Int) = 4294967296 := rfl
    rw [e] at this
    omega
  have hm0 : 0 ≤ (X : Int) / 4294967296 * (n : Int) := Int.mul_nonneg (Int.ediv_nonneg (by omega) (by omega)) (by omega)
  have wn : IntKind.u64.wrap (n : Int) = (n : Int) := IntWalk.u64_in _ ⟨by omega, by omega⟩
  have wm : IntKind.u64.wrap ((X : Int) / 4294967296 * (n : Int)) = (X : Int) / 4294967296 * (n : Int) := IntWalk.u64_in _ ⟨by omega, by omega⟩
  have wd : wrap64 ((X : Int) / 4294967296 * (n : Int) / 4294967296) = ((X / 4294967296 * n / 4294967296 : Nat) : Int) := by
    have hfin : (((X / 4294967296 * n / 4294967296 : Nat) : Int)) = (X : Int) / 4294967296 * (n : Int) / 4294967296 := by
      simp only [Int.natCast_mul, Int.natCast_ediv]; rfl
    rw [hfin]
    clear wn wm hfin
    generalize (X : Int) / 4294967296 * (n : Int) = Z at *
    unfold wrap64
    omega
  have WD := Lib.hid wd
  clear wd hm hm2 hm0 hX hd
  generalize (X / 4294967296 * n / 4294967296 : Nat) = R at *
  go_enter Tryz.func42, Tryz.ntmps42
  go_wp2_with fail
  refine (C1.out _).mono ?_
  rintro e w1 ⟨rfl, hb1⟩
  have hB1 : Below w.heap.size w w1 := Below.trans (by repeat (first | with_reducible assumption | with_reducible exact Below.refl _ _ | with_reducible apply Below.drew | (with_reducible refine Below.alloc ?_ (by first | omega | (simp only [zA, zS, zD, zN]; omega) | (dsimp only; omega) | (simp only [zA, zS, zD, zN]; dsimp only; omega)) _) | (with_reducible refine Below.setCell ?_ (by first | omega | (simp only [zA, zS, zD, zN]; omega) | (dsimp only; omega) | (simp only [zA, zS, zD, zN]; dsimp only; omega)) _) | (with_reducible apply below_drewN))) (hb1.mono (by first | omega | (simp only [zA, zS, zD, zN]; omega) | (dsimp only; omega) | (simp only [zA, zS, zD, zN]; dsimp only; omega)))
  clear hb1
  have hfd := fld_seed0 t g
  go_wp2_with fail
  refine (M1.out _).mono ?_
  rintro e w2 ⟨rfl, rfl⟩
  go_wp2_with fail
  go_ret
  exact ⟨congrArg (fun n => Ending.returned (.int .i64 n)) WD.out, hB1⟩
end Go.Proofs.YtibmnifenfingaaGreatDoor
