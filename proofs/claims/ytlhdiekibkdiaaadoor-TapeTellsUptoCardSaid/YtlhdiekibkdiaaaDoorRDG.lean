/- The walks through the reference's digits of a number. -/
import Derived.Test.YtlhdiekibkdiaaaDoorPTX
import Derived.Test.YtlhdiekibkdiaaaDoorProg
import Derived.Laws.IdiomStrings
namespace Go.Proofs.YtlhdiekibkdiaaaDoor
set_option maxRecDepth 100000
open Go.RowKit
set_option linter.unusedSimpArgs false
set_option linter.unusedVariables false
theorem itoa_small (n : Nat) (h : n < 10) : Lib.itoa (n : Int) = [UInt8.ofNat (48 + n)] := by
  unfold Lib.itoa
  rw [if_neg (by omega)]
  unfold Lib.decDigits
  rw [dif_pos (by simpa using h)]
  simp
theorem itoa_more (n : Nat) (h : 10 ≤ n) : Lib.itoa (n : Int) = Lib.itoa ((n / 10 : Nat) : Int) ++ Lib.itoa ((n % 10 : Nat) : Int) := by
  rw [itoa_small (n % 10) (by omega)]
  unfold Lib.itoa
  rw [if_neg (by omega), if_neg (by omega), Lib.decDigits, dif_neg (by simp; omega)]
  have e : ((n : Int) / 10).toNat = n / 10 := by omega
  simp [e]
theorem itoa_minus (n : Nat) (h : 1 ≤ n) : Lib.itoa (-(n : Int)) = 45 :: Lib.itoa (n : Int) := by
  unfold Lib.itoa
  rw [if_pos (by omega), if_neg (by omega)]
  simp
theorem cat_bytes (a b : List UInt8) : (⟨a.toArray⟩ : ByteArray) ++ ⟨b.toArray⟩ = ⟨(a ++ b).toArray⟩ := by apply ByteArray.ext; simp
theorem conv_one (w : World) (c : UInt8) : (convert 108 9 (.slice (some ⟨w.heap.size, 0, none⟩) 1 1)).run Tryd.prog (w.alloc (.cells #[.int .u8 (c.toNat : Int)] 5)) = .ok (.string ⟨#[c]⟩) (w.alloc (.cells #[.int .u8 (c.toNat : Int)] 5)) := by
  have := run_convert_bytes_back (P := Tryd.prog) (w.alloc (.cells #[.int .u8 (c.toNat : Int)] 5)) 108 9 5 ⟨w.heap.size, 0, none⟩ 1 [c] Tryd.underlying108 Tryd.underlying5 Tryd.underlying9 (fun j hj => by
    have : j = 0 := by simp at hj; omega
    subst this
    simp [Addr.add])
  simpa using this
set_option maxHeartbeats 2000000 in
theorem rdig_small (n : Nat) (h : n < 10) (w : World) : Calls Tryd.prog 51 #[.int .i64 n] w fun e w' => e = .returned (.string ⟨(Lib.itoa (n : Int)).toArray⟩) ∧ Below w.heap.size w w' := by
  rw [itoa_small n h]
  have kc := conv_one w (UInt8.ofNat (48 + n))
  have e1 : (UInt8.ofNat (48 + n)).toNat = 48 + n := digit_toNat h
  rw [e1] at kc
  have q0 : ¬ (n : Int) < 0 := by omega
  have q1 : (n : Int) < 10 := by omega
  have q2 : IntKind.i64.wrap (48 + (n : Int)) = 48 + (n : Int) := by rw [IntKind.wrap_i64]; omega
  have q3 : IntKind.u8.wrap (48 + (n : Int)) = 48 + (n : Int) := by simp [IntKind.wrap, IntKind.bits, IntKind.signed]; omega
  have e2 : ((48 + n : Nat) : Int) = 48 + (n : Int) := by omega
  rw [e2] at kc
  clear e1 e2
  generalize UInt8.ofNat (48 + n) = c at *
  go_enter Tryd.func51, Tryd.ntmps51
  go_wp2_with fail
  go_ret
  exact ⟨by simp, by repeat (first | with_reducible assumption | with_reducible exact Below.refl _ _ | with_reducible apply Below.drew | (with_reducible refine Below.alloc ?_ (by first | omega | (simp only [zA, zS, zD, zN]; omega) | (dsimp only; omega) | (simp only [zA, zS, zD, zN]; dsimp only; omega)) _) | (with_reducible refine Below.setCell ?_ (by first | omega | (simp only [zA, zS, zD, zN]; omega) | (dsimp only; omega) | (simp only [zA, zS, zD, zN]; dsimp only; omega)) _) | (with_reducible apply below_drewN))⟩
set_option maxHeartbeats 2000000 in
theorem rdig_nat (n : Nat) : n ≤ 9223372036854775807 → ∀ w : World, Calls Tryd.prog 51 #[.int .i64 n] w fun e w' => e = .returned (.string ⟨(Lib.itoa (n : Int)).toArray⟩) ∧ Below w.heap.size w w' := by
  induction n using Nat.strongRecOn with
  | _ n ih =>
  intro hn w
  by_cases h : n < 10
  · exact rdig_small n h w
  rw [itoa_more n (by omega)]
  have C1 := Lib.hid (ih (n / 10) (by omega) (by omega))
  have C2 := Lib.hid (rdig_small (n % 10) (by omega))
  have hl1 := itoa_len ((n / 10 : Nat) : Int) ⟨by omega, by omega⟩
  have hl2 := itoa_len ((n % 10 : Nat) : Int) ⟨by omega, by omega⟩
  have q0 : ¬ (n : Int) < 0 := by omega
  have q1 : ¬ (n : Int) < 10 := by omega
  have q2 : IntKind.i64.wrap ((n : Int).tdiv 10) = ((n / 10 : Nat) : Int) := by rw [Int.tdiv_eq_ediv_of_nonneg (by omega), IntKind.wrap_i64] <;> omega
  have q3 : IntKind.i64.wrap ((n : Int).tmod 10) = ((n % 10 : Nat) : Int) := by rw [Int.tmod_eq_emod_of_nonneg (by omega), IntKind.wrap_i64] <;> omega
  clear ih
  generalize Lib.itoa ((n / 10 : Nat) : Int) = ta at *
  generalize Lib.itoa ((n % 10 : Nat) : Int) = tb at *
  go_enter Tryd.func51, Tryd.ntmps51
  go_wp2_with fail
  refine (C1.out _).mono ?_
  rintro e w1 ⟨rfl, hb1⟩
  go_wp2_with fail
  refine (C2.out _).mono ?_
  rintro e w2 ⟨rfl, hb2⟩
  go_wp2_with fail
  go_ret
  exact ⟨by rw [cat_bytes]; rfl, hb1.trans (hb2.mono hb1.size)⟩
set_option maxHeartbeats 2000000 in
theorem rdig_neg (n : Nat) : 1 ≤ n → n ≤ 9223372036854775808 → ∀ w : World, Calls Tryd.prog 51 #[.int .i64 (-(n : Int))] w fun e w' => e = .returned (.string ⟨(Lib.itoa (-(n : Int))).toArray⟩) ∧ Below w.heap.size w w' := by
  induction n using Nat.strongRecOn with
  | _ n ih =>
  intro h1 hn w
  have q0 : -(n : Int) < 0 := by omega
  have q2 : IntKind.i64.wrap ((-(n : Int)).tdiv 10) = -((n / 10 : Nat) : Int) := by rw [Int.neg_tdiv, Int.tdiv_eq_ediv_of_nonneg (by omega), IntKind.wrap_i64] <;> omega
  have q3 : (-(n : Int)).tmod 10 = -((n % 10 : Nat) : Int) := by rw [Int.neg_tmod, Int.tmod_eq_emod_of_nonneg (by omega)]; omega
  have q4 : IntKind.i64.wrap (0 - -((n % 10 : Nat) : Int)) = ((n % 10 : Nat) : Int) := by rw [IntKind.wrap_i64] <;> omega
  have q5 : IntKind.i64.wrap (-((n % 10 : Nat) : Int)) = -((n % 10 : Nat) : Int) := by rw [IntKind.wrap_i64] <;> omega
  rw [itoa_minus n h1]
  by_cases h : n < 10
  · have e0 : n / 10 = 0 := by omega
    have e1 : n % 10 = n := by omega
    rw [e0] at q2
    rw [e1] at q3 q4 q5
    have C2 := Lib.hid (rdig_small n h)
    have hl2 := itoa_len (n : Int) ⟨by omega, by omega⟩
    generalize Lib.itoa (n : Int) = tb at *
    simp only [Int.ofNat_zero, Int.neg_zero, Int.natCast_zero] at q2
    clear ih e0 e1
    go_enter Tryd.func51, Tryd.ntmps51
    go_wp2_with fail
    refine (C2.out _).mono ?_
    rintro e w2 ⟨rfl, hb2⟩
    go_wp2_with fail
    go_ret
    exact ⟨by rw [show (⟨#[45]⟩ : ByteArray) = ⟨[45].toArray⟩ from rfl, cat_bytes]; rfl, hb2⟩
  · rw [itoa_more n (by omega), ← List.cons_append, ← itoa_minus (n / 10) (by omega)]
    have C1 := Lib.hid (ih (n / 10) (by omega) (by omega) (by omega))
    have C2 := Lib.hid (rdig_small (n % 10) (by omega))
    have hl1 := itoa_len (-((n / 10 : Nat) : Int)) ⟨by omega, by omega⟩
    have hl2 := itoa_len ((n % 10 : Nat) : Int) ⟨by omega, by omega⟩
    have q6 : ¬ -((n / 10 : Nat) : Int) = 0 := by omega
    clear ih
    generalize Lib.itoa (-((n / 10 : Nat) : Int)) = ta at *
    generalize Lib.itoa ((n % 10 : Nat) : Int) = tb at *
    have q7 : (-((n / 10 : Nat) : Int) == 0) = false := by simp; omega
    generalize -((n / 10 : Nat) : Int) = x at *
    generalize -((n % 10 : Nat) : Int) = y at *
    generalize ((n % 10 : Nat) : Int) = nr at *
    clear h h1 hn
    generalize -(n : Int) = a at *
    have q8 : wrap64 (-y) = nr := by rw [Int.zero_sub, IntKind.wrap_i64] at q4; unfold wrap64; exact q4
    go_enter Tryd.func51, Tryd.ntmps51
    go_wp2_with fail
    refine (C1.out _).mono ?_
    rintro e w1 ⟨rfl, hb1⟩
    go_wp2_with fail
    refine (C2.out _).mono ?_
    rintro e w2 ⟨rfl, hb2⟩
    go_wp2_with fail
    go_ret
    exact ⟨by rw [cat_bytes]; rfl, hb1.trans (hb2.mono hb1.size)⟩
theorem rdig_any (n : Int) (h : In64 n) (w : World) : Calls Tryd.prog 51 #[.int .i64 n] w fun e w' => e = .returned (.string ⟨(Lib.itoa n).toArray⟩) ∧ Below w.heap.size w w' := by
  obtain ⟨h1, h2⟩ := h
  by_cases hn : 0 ≤ n
  · obtain ⟨m, rfl⟩ := Int.eq_ofNat_of_zero_le hn
    exact rdig_nat m (by omega) w
  · obtain ⟨m, hm⟩ := Int.eq_ofNat_of_zero_le (show 0 ≤ -n by omega)
    have e : n = -(m : Int) := by omega
    subst e
    exact rdig_neg m (by omega) (by omega) w
end Go.Proofs.YtlhdiekibkdiaaaDoor
