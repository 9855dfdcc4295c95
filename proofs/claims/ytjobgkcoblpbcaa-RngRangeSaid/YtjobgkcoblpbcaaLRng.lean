/- The walks of the statements on the random numbers. -/
import Derived.Test.YtjobgkcoblpbcaaRng
namespace Go.Proofs.Ytjobgkcoblpbcaa
open Go.RowKit
set_option linter.unusedSimpArgs false
set_option linter.unusedVariables false
set_option maxHeartbeats 1000000 in
theorem apart_walk (s g b : Nat) (k : Int) (hs : s < 18446744073709551616) (hg : g < 18446744073709551616) (hb : b < 18446744073709551616) (hk : In64 k) (w : World) :
    Calls Try.prog 3 #[.agg #[.int .u64 s, .int .u64 g], .int .u64 b, .int .i64 k] w fun e w' => e = .returned (.bool true) ∧ Below w.heap.size w w' := by
  have C1 := Lib.hid (next_any s g)
  have C2 := Lib.hid (next_any b g)
  have C3 := Lib.hid (split_any s g)
  have hX : (PRng.mix ((s + g) % 18446744073709551616) = PRng.mix ((b + g) % 18446744073709551616)) ↔ s = b := by
    refine ⟨fun h => ?_, fun h => by rw [h]⟩
    have := PRng.mix_inj _ _ (Nat.mod_lt _ (by decide)) (Nat.mod_lt _ (by decide)) h
    omega
  have hZ : ((PRng.mix (((s + g) % 18446744073709551616 + g) % 18446744073709551616) ||| 1 : Nat) : Int) % 2 = 1 := by
    have : (PRng.mix (((s + g) % 18446744073709551616 + g) % 18446744073709551616) ||| 1) % 2 = 1 := by
      simp [Nat.or_mod_two_eq_one]
    omega
  have hZl : PRng.mix (((s + g) % 18446744073709551616 + g) % 18446744073709551616) ||| 1 < 18446744073709551616 :=
    Nat.or_lt_two_pow (n := 64) (PRng.mix_lt _) (by decide)
  have hXl := PRng.mix_lt ((s + g) % 18446744073709551616)
  generalize (s + g) % 18446744073709551616 = t1 at *
  generalize (b + g) % 18446744073709551616 = u1 at *
  generalize PRng.mix (((t1 + g) % 18446744073709551616)) ||| 1 = Z at *
  generalize (t1 + g) % 18446744073709551616 = t2 at *
  generalize PRng.mix t1 = X at *
  generalize PRng.mix u1 = Y at *
  have hT : (((X : Int) == (Y : Int))) = ((s : Int) == (b : Int)) := by
    by_cases h : s = b
    · have := hX.2 h
      subst h
      subst this
      simp
    · have h2 : ¬ X = Y := fun e => h (hX.1 e)
      have e1 : ((X : Int) == (Y : Int)) = false := by simp; omega
      have e2 : ((s : Int) == (b : Int)) = false := by simp; omega
      rw [e1, e2]
  clear hX
  go_enter Try.func3, Try.ntmps3
  go_wp2_with fail
  refine (known_any _).mono ?_
  rintro e w1 ⟨rfl, hb1⟩
  obtain ⟨hc1, hf1, hz1⟩ := bcell hb1
  simp only [World.size_alloc] at hz1
  have y1 : w.heap.size < w1.heap.size := by omega
  go_wp2_with fail
  refine (C1.out _).mono ?_
  rintro e w2 ⟨rfl, hb2⟩
  obtain ⟨hc2, hf2, hz2⟩ := bcell hb2
  have y2 : w.heap.size < w2.heap.size := by omega
  go_wp2_with fail
  refine (C2.out _).mono ?_
  rintro e w3 ⟨rfl, hb3⟩
  obtain ⟨hc3, hf3, hz3⟩ := bcell hb3
  simp only [World.size_alloc] at hz3
  have y3 : w.heap.size < w3.heap.size := by omega
  have x3 : w2.heap.size < w3.heap.size := by omega
  go_wp2_with fail
  refine (C3.out _).mono ?_
  rintro e w4 ⟨rfl, hb4⟩
  obtain ⟨hc4, hf4, hz4⟩ := bcell hb4
  simp only [World.size_alloc] at hz4
  have y4 : w.heap.size < w4.heap.size := by omega
  have x4 : w2.heap.size < w4.heap.size := by omega
  go_wp2_with fail
  have hB4 : Below w.heap.size w w4 := (((Below.refl _ _).alloc (Nat.le_refl _) _).trans (hb1.mono (by simp))).trans (hb2.mono (by omega)) |>.trans (((Below.refl _ _).alloc (Nat.le_refl _) _).mono (by omega)) |>.trans (hb3.mono (by simp; omega)) |>.trans (((Below.refl _ _).alloc (Nat.le_refl _) _).mono (by omega)) |>.trans (hb4.mono (by simp; omega))
  clear hb1 hb2 hb3 hb4 hc1 hc2 hc3 hc4 hf1 hf2 hf3 hf4 hT
  generalize hW5 : (((w4.alloc (.cells #[.int .u64 t2, .int .u64 g] 24)).alloc (.cells #[.int .u64 X, .int .u64 Z] 24)).alloc (.cells #[.int .u64 X, .int .u64 Z] 24)) = W5
  have q1 : Blk W5 (w4.heap.size + 1) #[.int .u64 X, .int .u64 Z] 24 := by
    rw [← hW5]; simpa using (Blk.new (w4.alloc (.cells #[.int .u64 t2, .int .u64 g] 24)) #[.int .u64 X, .int .u64 Z] 24).alloc (.cells #[.int .u64 X, .int .u64 Z] 24)
  have q2 : Blk W5 (w4.heap.size + 1 + 1) #[.int .u64 X, .int .u64 Z] 24 := by
    rw [← hW5]; simpa using (Blk.new ((w4.alloc (.cells #[.int .u64 t2, .int .u64 g] 24)).alloc (.cells #[.int .u64 X, .int .u64 Z] 24)) #[.int .u64 X, .int .u64 Z] 24)
  have hB5 : Below w.heap.size w W5 := by
    rw [← hW5]; exact ((hB4.alloc (by omega) _).alloc (by simp; omega) _).alloc (by simp; omega) _
  have HZ := Lib.hid hZ
  clear hZ hW5 hB4 hz1 hz2 hz3 hz4 y1 y2 y3 x3 x4
  generalize w4.heap.size = p at *
  go_loopw [15] (fun i wr => ∃ n : Nat, n ≤ 20 ∧ i = .int .i64 n ∧ Blk wr (p + 1) #[.int .u64 X, .int .u64 Z] 24 ∧ Blk wr (p + 1 + 1) #[.int .u64 ((X + n * Z) % 18446744073709551616 : Nat), .int .u64 Z] 24 ∧ Below w.heap.size w wr) (fun i _ => 20 - (intOf i).toNat)
  case atStart =>
    have e0 : (X + 0 * Z) % 18446744073709551616 = X := by rw [Nat.zero_mul, Nat.add_zero, Nat.mod_eq_of_lt hXl]
    exact ⟨0, by omega, rfl, q1, by rw [e0]; exact q2, hB5⟩
  case round =>
    obtain ⟨n, hn, rfl, r1, r2, hr⟩ := hrel
    clear q1 q2 hB5 C1 C2 C3
    have hst : ((X + n * Z) % 18446744073709551616 + Z) % 18446744073709551616 = (X + (n + 1) * Z) % 18446744073709551616 := by
      rw [Nat.mod_add_mod, Nat.add_mul, Nat.one_mul, Nat.add_assoc]
    have hne : n < 20 → (X + (n + 1) * Z) % 18446744073709551616 ≠ X := fun h => PRng.odd_round Z (n + 1) X (by have := HZ.out; omega) (by omega) (by omega) hXl
    have C := Lib.hid (next_any ((X + n * Z) % 18446744073709551616) Z)
    rw [hst] at C
    generalize (X + n * Z) % 18446744073709551616 = st at *
    have HN : Hid ((X + (n + 1) * Z) % 18446744073709551616 = (X + (n + 1) * Z) % 18446744073709551616) := rfl
    generalize hst2 : (X + (n + 1) * Z) % 18446744073709551616 = st2 at *
    have HS := Lib.hid hst2
    clear hst2 hst HN
    generalize PRng.mix st2 = m2 at *
    have c20 : wr.cell? ⟨p + 1 + 1, 0, none⟩ = some (.int .u64 st) := r2.cell 0
    have c21 : wr.cell? ⟨p + 1 + 1, 1, none⟩ = some (.int .u64 Z) := r2.cell 1
    by_cases hlt : (n : Int) < k
    · by_cases hlt2 : n < 20
      · have hne2 : ((st2 : Int) == (X : Int)) = false := by have := hne hlt2; simp; omega
        clear hne
        go_wp2_with fail
        refine (C.out _).mono ?_
        rintro e w6 ⟨rfl, hb6⟩
        have s1 := r1.ext hb6
        have s2 := r2.ext hb6
        have hr6 := hr.trans (hb6.mono hr.size)
        clear hb6 hr r1 r2 c20 c21
        have l2 := s2.lt
        have l1 := s1.lt
        have d10 : w6.cell? ⟨p + 1, 0, none⟩ = some (.int .u64 X) := s1.cell 0
        have d20 : w6.cell? ⟨p + 1 + 1, 0, none⟩ = some (.int .u64 st) := s2.cell 0
        have d21 : w6.cell? ⟨p + 1 + 1, 1, none⟩ = some (.int .u64 Z) := s2.cell 1
        have f2 := s2.unfrozen
        go_wp2_with fail
        go_roundw
        case rel =>
          refine ⟨n + 1, by omega, by go_num, ?_, ?_, ?_⟩
          · exact ((s1.oth (p + 1 + 1) 0 (by omega) _).oth (p + 1 + 1) 1 (by omega) _).alloc _
          · rw [HS.out]; exact ((s2.set 0 (.int .u64 st2)).set 1 (.int .u64 Z)).alloc _
          · exact ((hr6.setCell (p := ⟨p + 1 + 1, 0, none⟩) (by show _ ≤ p + 1 + 1; omega) _).setCell (p := ⟨p + 1 + 1, 1, none⟩) (by show _ ≤ p + 1 + 1; omega) _).alloc (by simp only [size_setCell]; exact hr6.size) _
        case measure => simp [intOf]; omega
      · go_wp2_with fail
        go_ret
        exact ⟨rfl, hr⟩
    · go_wp2_with fail
      go_ret
      exact ⟨rfl, hr⟩
set_option maxHeartbeats 1000000 in
theorem range_walk (s g : Nat) (n m : Int) (hs : s < 18446744073709551616) (hg : g < 18446744073709551616) (hn : In64 n) (hm : In64 m) (w : World) :
    Calls Try.prog 4 #[.agg #[.int .u64 s, .int .u64 g], .int .i64 n, .int .i64 m] w fun e w' => e = .returned (.bool true) ∧ Below w.heap.size w w' := by
  by_cases h1 : n < 1 ∨ 2147483647 < n
  · by_cases h2 : m < 1 ∨ 2147483647 < m
    · have C1 := Lib.hid (below_no s g n h1)
      have C2 := Lib.hid (below_no s g m h2)
      have H1 := Lib.hid h1
      have H2 := Lib.hid h2
      clear h1 h2
      go_enter Try.func4, Try.ntmps4
      go_wp2_with fail
      refine (known_any _).mono ?_
      rintro e w1 ⟨rfl, hb1⟩
      have hB1 : Below w.heap.size w w1 := Below.trans (by repeat (first | with_reducible assumption | with_reducible exact Below.refl _ _ | with_reducible apply Below.drew | (with_reducible refine Below.alloc ?_ (by first | omega | (simp only [World.size_alloc, size_setCell, size_drew, size_drewN]; omega) | (dsimp only; omega) | (simp only [World.size_alloc, size_setCell, size_drew, size_drewN]; dsimp only; omega)) _) | (with_reducible refine Below.setCell ?_ (by first | omega | (simp only [World.size_alloc, size_setCell, size_drew, size_drewN]; omega) | (dsimp only; omega) | (simp only [World.size_alloc, size_setCell, size_drew, size_drewN]; dsimp only; omega)) _))) (hb1.mono (by first | omega | (simp only [World.size_alloc, size_setCell, size_drew, size_drewN]; omega) | (dsimp only; omega) | (simp only [World.size_alloc, size_setCell, size_drew, size_drewN]; dsimp only; omega)))
      obtain ⟨hc1, hf1, hz1⟩ := bcell hb1
      try simp only [World.size_alloc, size_setCell, size_drew, size_drewN] at hz1
      clear hb1
      have y1_0 : w.heap.size < w1.heap.size := by omega
      go_wp2_with fail
      refine (C1.out _).mono ?_
      rintro e w2 ⟨rfl, hb2⟩
      have hB2 : Below w.heap.size w w2 := Below.trans (by repeat (first | with_reducible assumption | with_reducible exact Below.refl _ _ | with_reducible apply Below.drew | (with_reducible refine Below.alloc ?_ (by first | omega | (simp only [World.size_alloc, size_setCell, size_drew, size_drewN]; omega) | (dsimp only; omega) | (simp only [World.size_alloc, size_setCell, size_drew, size_drewN]; dsimp only; omega)) _) | (with_reducible refine Below.setCell ?_ (by first | omega | (simp only [World.size_alloc, size_setCell, size_drew, size_drewN]; omega) | (dsimp only; omega) | (simp only [World.size_alloc, size_setCell, size_drew, size_drewN]; dsimp only; omega)) _))) (hb2.mono (by first | omega | (simp only [World.size_alloc, size_setCell, size_drew, size_drewN]; omega) | (dsimp only; omega) | (simp only [World.size_alloc, size_setCell, size_drew, size_drewN]; dsimp only; omega)))
      obtain ⟨hc2, hf2, hz2⟩ := bcell hb2
      try simp only [World.size_alloc, size_setCell, size_drew, size_drewN] at hz2
      clear hb2
      have y2_0 : w.heap.size < w2.heap.size := by omega
      go_wp2_with fail
      refine (C2.out _).mono ?_
      rintro e w3 ⟨rfl, hb3⟩
      have hB3 : Below w.heap.size w w3 := Below.trans (by repeat (first | with_reducible assumption | with_reducible exact Below.refl _ _ | with_reducible apply Below.drew | (with_reducible refine Below.alloc ?_ (by first | omega | (simp only [World.size_alloc, size_setCell, size_drew, size_drewN]; omega) | (dsimp only; omega) | (simp only [World.size_alloc, size_setCell, size_drew, size_drewN]; dsimp only; omega)) _) | (with_reducible refine Below.setCell ?_ (by first | omega | (simp only [World.size_alloc, size_setCell, size_drew, size_drewN]; omega) | (dsimp only; omega) | (simp only [World.size_alloc, size_setCell, size_drew, size_drewN]; dsimp only; omega)) _))) (hb3.mono (by first | omega | (simp only [World.size_alloc, size_setCell, size_drew, size_drewN]; omega) | (dsimp only; omega) | (simp only [World.size_alloc, size_setCell, size_drew, size_drewN]; dsimp only; omega)))
      obtain ⟨hc3, hf3, hz3⟩ := bcell hb3
      try simp only [World.size_alloc, size_setCell, size_drew, size_drewN] at hz3
      clear hb3
      have y3_0 : w.heap.size < w3.heap.size := by omega
      have y3_1 : w2.heap.size < w3.heap.size := by omega
      have h1 := H1.out
      have h2 := H2.out
      go_wp2_with fail
      all_goals (go_ret; exact ⟨by simp <;> omega, by repeat (first | with_reducible assumption | with_reducible exact Below.refl _ _ | with_reducible apply Below.drew | (with_reducible refine Below.alloc ?_ (by first | omega | (simp only [World.size_alloc, size_setCell, size_drew, size_drewN]; omega) | (dsimp only; omega) | (simp only [World.size_alloc, size_setCell, size_drew, size_drewN]; dsimp only; omega)) _) | (with_reducible refine Below.setCell ?_ (by first | omega | (simp only [World.size_alloc, size_setCell, size_drew, size_drewN]; omega) | (dsimp only; omega) | (simp only [World.size_alloc, size_setCell, size_drew, size_drewN]; dsimp only; omega)) _))⟩)
    · obtain ⟨M, rfl⟩ := Int.eq_ofNat_of_zero_le (show 0 ≤ m by omega)
      have C1 := Lib.hid (below_no s g n h1)
      have C2 := Lib.hid (below_yes s g M (by omega) (by omega))
      have H1 := Lib.hid h1
      have H2 := Lib.hid h2
      clear h1 h2
      go_enter Try.func4, Try.ntmps4
      go_wp2_with fail
      refine (known_any _).mono ?_
      rintro e w1 ⟨rfl, hb1⟩
      have hB1 : Below w.heap.size w w1 := Below.trans (by repeat (first | with_reducible assumption | with_reducible exact Below.refl _ _ | with_reducible apply Below.drew | (with_reducible refine Below.alloc ?_ (by first | omega | (simp only [World.size_alloc, size_setCell, size_drew, size_drewN]; omega) | (dsimp only; omega) | (simp only [World.size_alloc, size_setCell, size_drew, size_drewN]; dsimp only; omega)) _) | (with_reducible refine Below.setCell ?_ (by first | omega | (simp only [World.size_alloc, size_setCell, size_drew, size_drewN]; omega) | (dsimp only; omega) | (simp only [World.size_alloc, size_setCell, size_drew, size_drewN]; dsimp only; omega)) _))) (hb1.mono (by first | omega | (simp only [World.size_alloc, size_setCell, size_drew, size_drewN]; omega) | (dsimp only; omega) | (simp only [World.size_alloc, size_setCell, size_drew, size_drewN]; dsimp only; omega)))
      obtain ⟨hc1, hf1, hz1⟩ := bcell hb1
      try simp only [World.size_alloc, size_setCell, size_drew, size_drewN] at hz1
      clear hb1
      have y1_0 : w.heap.size < w1.heap.size := by omega
      go_wp2_with fail
      refine (C1.out _).mono ?_
      rintro e w2 ⟨rfl, hb2⟩
      have hB2 : Below w.heap.size w w2 := Below.trans (by repeat (first | with_reducible assumption | with_reducible exact Below.refl _ _ | with_reducible apply Below.drew | (with_reducible refine Below.alloc ?_ (by first | omega | (simp only [World.size_alloc, size_setCell, size_drew, size_drewN]; omega) | (dsimp only; omega) | (simp only [World.size_alloc, size_setCell, size_drew, size_drewN]; dsimp only; omega)) _) | (with_reducible refine Below.setCell ?_ (by first | omega | (simp only [World.size_alloc, size_setCell, size_drew, size_drewN]; omega) | (dsimp only; omega) | (simp only [World.size_alloc, size_setCell, size_drew, size_drewN]; dsimp only; omega)) _))) (hb2.mono (by first | omega | (simp only [World.size_alloc, size_setCell, size_drew, size_drewN]; omega) | (dsimp only; omega) | (simp only [World.size_alloc, size_setCell, size_drew, size_drewN]; dsimp only; omega)))
      obtain ⟨hc2, hf2, hz2⟩ := bcell hb2
      try simp only [World.size_alloc, size_setCell, size_drew, size_drewN] at hz2
      clear hb2
      have y2_0 : w.heap.size < w2.heap.size := by omega
      go_wp2_with fail
      refine (C2.out _).mono ?_
      rintro e w3 ⟨rfl, hb3⟩
      have hB3 : Below w.heap.size w w3 := Below.trans (by repeat (first | with_reducible assumption | with_reducible exact Below.refl _ _ | with_reducible apply Below.drew | (with_reducible refine Below.alloc ?_ (by first | omega | (simp only [World.size_alloc, size_setCell, size_drew, size_drewN]; omega) | (dsimp only; omega) | (simp only [World.size_alloc, size_setCell, size_drew, size_drewN]; dsimp only; omega)) _) | (with_reducible refine Below.setCell ?_ (by first | omega | (simp only [World.size_alloc, size_setCell, size_drew, size_drewN]; omega) | (dsimp only; omega) | (simp only [World.size_alloc, size_setCell, size_drew, size_drewN]; dsimp only; omega)) _))) (hb3.mono (by first | omega | (simp only [World.size_alloc, size_setCell, size_drew, size_drewN]; omega) | (dsimp only; omega) | (simp only [World.size_alloc, size_setCell, size_drew, size_drewN]; dsimp only; omega)))
      obtain ⟨hc3, hf3, hz3⟩ := bcell hb3
      try simp only [World.size_alloc, size_setCell, size_drew, size_drewN] at hz3
      clear hb3
      have y3_0 : w.heap.size < w3.heap.size := by omega
      have y3_1 : w2.heap.size < w3.heap.size := by omega
      have h1 := H1.out
      have h2 := H2.out
      go_wp2_with fail
      all_goals (go_ret; exact ⟨by simp <;> omega, by repeat (first | with_reducible assumption | with_reducible exact Below.refl _ _ | with_reducible apply Below.drew | (with_reducible refine Below.alloc ?_ (by first | omega | (simp only [World.size_alloc, size_setCell, size_drew, size_drewN]; omega) | (dsimp only; omega) | (simp only [World.size_alloc, size_setCell, size_drew, size_drewN]; dsimp only; omega)) _) | (with_reducible refine Below.setCell ?_ (by first | omega | (simp only [World.size_alloc, size_setCell, size_drew, size_drewN]; omega) | (dsimp only; omega) | (simp only [World.size_alloc, size_setCell, size_drew, size_drewN]; dsimp only; omega)) _))⟩)
  · obtain ⟨N, rfl⟩ := Int.eq_ofNat_of_zero_le (show 0 ≤ n by omega)
    by_cases h2 : m < 1 ∨ 2147483647 < m
    · have C1 := Lib.hid (below_yes s g N (by omega) (by omega))
      have C2 := Lib.hid (below_no s g m h2)
      have H1 := Lib.hid h1
      have H2 := Lib.hid h2
      clear h1 h2
      go_enter Try.func4, Try.ntmps4
      go_wp2_with fail
      refine (known_any _).mono ?_
      rintro e w1 ⟨rfl, hb1⟩
      have hB1 : Below w.heap.size w w1 := Below.trans (by repeat (first | with_reducible assumption | with_reducible exact Below.refl _ _ | with_reducible apply Below.drew | (with_reducible refine Below.alloc ?_ (by first | omega | (simp only [World.size_alloc, size_setCell, size_drew, size_drewN]; omega) | (dsimp only; omega) | (simp only [World.size_alloc, size_setCell, size_drew, size_drewN]; dsimp only; omega)) _) | (with_reducible refine Below.setCell ?_ (by first | omega | (simp only [World.size_alloc, size_setCell, size_drew, size_drewN]; omega) | (dsimp only; omega) | (simp only [World.size_alloc, size_setCell, size_drew, size_drewN]; dsimp only; omega)) _))) (hb1.mono (by first | omega | (simp only [World.size_alloc, size_setCell, size_drew, size_drewN]; omega) | (dsimp only; omega) | (simp only [World.size_alloc, size_setCell, size_drew, size_drewN]; dsimp only; omega)))
      obtain ⟨hc1, hf1, hz1⟩ := bcell hb1
      try simp only [World.size_alloc, size_setCell, size_drew, size_drewN] at hz1
      clear hb1
      have y1_0 : w.heap.size < w1.heap.size := by omega
      go_wp2_with fail
      refine (C1.out _).mono ?_
      rintro e w2 ⟨rfl, hb2⟩
      have hB2 : Below w.heap.size w w2 := Below.trans (by repeat (first | with_reducible assumption | with_reducible exact Below.refl _ _ | with_reducible apply Below.drew | (with_reducible refine Below.alloc ?_ (by first | omega | (simp only [World.size_alloc, size_setCell, size_drew, size_drewN]; omega) | (dsimp only; omega) | (simp only [World.size_alloc, size_setCell, size_drew, size_drewN]; dsimp only; omega)) _) | (with_reducible refine Below.setCell ?_ (by first | omega | (simp only [World.size_alloc, size_setCell, size_drew, size_drewN]; omega) | (dsimp only; omega) | (simp only [World.size_alloc, size_setCell, size_drew, size_drewN]; dsimp only; omega)) _))) (hb2.mono (by first | omega | (simp only [World.size_alloc, size_setCell, size_drew, size_drewN]; omega) | (dsimp only; omega) | (simp only [World.size_alloc, size_setCell, size_drew, size_drewN]; dsimp only; omega)))
      obtain ⟨hc2, hf2, hz2⟩ := bcell hb2
      try simp only [World.size_alloc, size_setCell, size_drew, size_drewN] at hz2
      clear hb2
      have y2_0 : w.heap.size < w2.heap.size := by omega
      go_wp2_with fail
      refine (C2.out _).mono ?_
      rintro e w3 ⟨rfl, hb3⟩
      have hB3 : Below w.heap.size w w3 := Below.trans (by repeat (first | with_reducible assumption | with_reducible exact Below.refl _ _ | with_reducible apply Below.drew | (with_reducible refine Below.alloc ?_ (by first | omega | (simp only [World.size_alloc, size_setCell, size_drew, size_drewN]; omega) | (dsimp only; omega) | (simp only [World.size_alloc, size_setCell, size_drew, size_drewN]; dsimp only; omega)) _) | (with_reducible refine Below.setCell ?_ (by first | omega | (simp only [World.size_alloc, size_setCell, size_drew, size_drewN]; omega) | (dsimp only; omega) | (simp only [World.size_alloc, size_setCell, size_drew, size_drewN]; dsimp only; omega)) _))) (hb3.mono (by first | omega | (simp only [World.size_alloc, size_setCell, size_drew, size_drewN]; omega) | (dsimp only; omega) | (simp only [World.size_alloc, size_setCell, size_drew, size_drewN]; dsimp only; omega)))
      obtain ⟨hc3, hf3, hz3⟩ := bcell hb3
      try simp only [World.size_alloc, size_setCell, size_drew, size_drewN] at hz3
      clear hb3
      have y3_0 : w.heap.size < w3.heap.size := by omega
      have y3_1 : w2.heap.size < w3.heap.size := by omega
      have h1 := H1.out
      have h2 := H2.out
      go_wp2_with fail
      all_goals (go_ret; exact ⟨by simp <;> omega, by repeat (first | with_reducible assumption | with_reducible exact Below.refl _ _ | with_reducible apply Below.drew | (with_reducible refine Below.alloc ?_ (by first | omega | (simp only [World.size_alloc, size_setCell, size_drew, size_drewN]; omega) | (dsimp only; omega) | (simp only [World.size_alloc, size_setCell, size_drew, size_drewN]; dsimp only; omega)) _) | (with_reducible refine Below.setCell ?_ (by first | omega | (simp only [World.size_alloc, size_setCell, size_drew, size_drewN]; omega) | (dsimp only; omega) | (simp only [World.size_alloc, size_setCell, size_drew, size_drewN]; dsimp only; omega)) _))⟩)
    · obtain ⟨M, rfl⟩ := Int.eq_ofNat_of_zero_le (show 0 ≤ m by omega)
      have C1 := Lib.hid (below_yes s g N (by omega) (by omega))
      have C2 := Lib.hid (below_yes s g M (by omega) (by omega))
      have hlt := PRng.below_lt s g N (by omega)
      have hmono := PRng.below_mono s g N M
      generalize PRng.below s g N = A at *
      generalize PRng.below s g M = B at *
      have H1 := Lib.hid h1
      have H2 := Lib.hid h2
      clear h1 h2
      go_enter Try.func4, Try.ntmps4
      go_wp2_with fail
      refine (known_any _).mono ?_
      rintro e w1 ⟨rfl, hb1⟩
      have hB1 : Below w.heap.size w w1 := Below.trans (by repeat (first | with_reducible assumption | with_reducible exact Below.refl _ _ | with_reducible apply Below.drew | (with_reducible refine Below.alloc ?_ (by first | omega | (simp only [World.size_alloc, size_setCell, size_drew, size_drewN]; omega) | (dsimp only; omega) | (simp only [World.size_alloc, size_setCell, size_drew, size_drewN]; dsimp only; omega)) _) | (with_reducible refine Below.setCell ?_ (by first | omega | (simp only [World.size_alloc, size_setCell, size_drew, size_drewN]; omega) | (dsimp only; omega) | (simp only [World.size_alloc, size_setCell, size_drew, size_drewN]; dsimp only; omega)) _))) (hb1.mono (by first | omega | (simp only [World.size_alloc, size_setCell, size_drew, size_drewN]; omega) | (dsimp only; omega) | (simp only [World.size_alloc, size_setCell, size_drew, size_drewN]; dsimp only; omega)))
      obtain ⟨hc1, hf1, hz1⟩ := bcell hb1
      try simp only [World.size_alloc, size_setCell, size_drew, size_drewN] at hz1
      clear hb1
      have y1_0 : w.heap.size < w1.heap.size := by omega
      go_wp2_with fail
      refine (C1.out _).mono ?_
      rintro e w2 ⟨rfl, hb2⟩
      have hB2 : Below w.heap.size w w2 := Below.trans (by repeat (first | with_reducible assumption | with_reducible exact Below.refl _ _ | with_reducible apply Below.drew | (with_reducible refine Below.alloc ?_ (by first | omega | (simp only [World.size_alloc, size_setCell, size_drew, size_drewN]; omega) | (dsimp only; omega) | (simp only [World.size_alloc, size_setCell, size_drew, size_drewN]; dsimp only; omega)) _) | (with_reducible refine Below.setCell ?_ (by first | omega | (simp only [World.size_alloc, size_setCell, size_drew, size_drewN]; omega) | (dsimp only; omega) | (simp only [World.size_alloc, size_setCell, size_drew, size_drewN]; dsimp only; omega)) _))) (hb2.mono (by first | omega | (simp only [World.size_alloc, size_setCell, size_drew, size_drewN]; omega) | (dsimp only; omega) | (simp only [World.size_alloc, size_setCell, size_drew, size_drewN]; dsimp only; omega)))
      obtain ⟨hc2, hf2, hz2⟩ := bcell hb2
      try simp only [World.size_alloc, size_setCell, size_drew, size_drewN] at hz2
      clear hb2
      have y2_0 : w.heap.size < w2.heap.size := by omega
      go_wp2_with fail
      refine (C2.out _).mono ?_
      rintro e w3 ⟨rfl, hb3⟩
      have hB3 : Below w.heap.size w w3 := Below.trans (by repeat (first | with_reducible assumption | with_reducible exact Below.refl _ _ | with_reducible apply Below.drew | (with_reducible refine Below.alloc ?_ (by first | omega | (simp only [World.size_alloc, size_setCell, size_drew, size_drewN]; omega) | (dsimp only; omega) | (simp only [World.size_alloc, size_setCell, size_drew, size_drewN]; dsimp only; omega)) _) | (with_reducible refine Below.setCell ?_ (by first | omega | (simp only [World.size_alloc, size_setCell, size_drew, size_drewN]; omega) | (dsimp only; omega) | (simp only [World.size_alloc, size_setCell, size_drew, size_drewN]; dsimp only; omega)) _))) (hb3.mono (by first | omega | (simp only [World.size_alloc, size_setCell, size_drew, size_drewN]; omega) | (dsimp only; omega) | (simp only [World.size_alloc, size_setCell, size_drew, size_drewN]; dsimp only; omega)))
      obtain ⟨hc3, hf3, hz3⟩ := bcell hb3
      try simp only [World.size_alloc, size_setCell, size_drew, size_drewN] at hz3
      clear hb3
      have y3_0 : w.heap.size < w3.heap.size := by omega
      have y3_1 : w2.heap.size < w3.heap.size := by omega
      have h1 := H1.out
      have h2 := H2.out
      go_wp2_with fail
      all_goals (go_ret; refine ⟨?_, by repeat (first | with_reducible assumption | with_reducible exact Below.refl _ _ | with_reducible apply Below.drew | (with_reducible refine Below.alloc ?_ (by first | omega | (simp only [World.size_alloc, size_setCell, size_drew, size_drewN]; omega) | (dsimp only; omega) | (simp only [World.size_alloc, size_setCell, size_drew, size_drewN]; dsimp only; omega)) _) | (with_reducible refine Below.setCell ?_ (by first | omega | (simp only [World.size_alloc, size_setCell, size_drew, size_drewN]; omega) | (dsimp only; omega) | (simp only [World.size_alloc, size_setCell, size_drew, size_drewN]; dsimp only; omega)) _))⟩; first | rfl | (simp; done) | (simp; omega))
set_option maxHeartbeats 1000000 in
theorem names_walk (w : World) : Calls Try.prog 5 #[] w fun e w' => e = .returned (.bool true) ∧ Below w.heap.size w w' := by
  go_enter Try.func5, Try.ntmps5
  go_wp2
  all_goals (go_ret; exact ⟨rfl, Below.refl _ _⟩)
theorem rngApart_go {v0 v1 v2 : Value} (x0 : Nat × Nat) (o0 : SeedAt v0 x0) (x1 : Nat) (o1 : U64At v1 x1) (x2 : Int) (o2 : IntAt v2 x2) (w : World) :
    Calls Try.prog 3 #[v0, v1, v2] w fun e w' => e = .returned (.bool true) ∧ Below w.heap.size w w' := by
  obtain ⟨rfl, h1, h2⟩ := o0
  obtain ⟨rfl, h3⟩ := o1
  obtain ⟨rfl, h4⟩ := o2
  exact apart_walk _ _ _ _ h1 h2 h3 h4 w
theorem rngRange_go {v0 v1 v2 : Value} (x0 : Nat × Nat) (o0 : SeedAt v0 x0) (x1 : Int) (o1 : IntAt v1 x1) (x2 : Int) (o2 : IntAt v2 x2) (w : World) :
    Calls Try.prog 4 #[v0, v1, v2] w fun e w' => e = .returned (.bool true) ∧ Below w.heap.size w w' := by
  obtain ⟨rfl, h1, h2⟩ := o0
  obtain ⟨rfl, h3⟩ := o1
  obtain ⟨rfl, h4⟩ := o2
  exact range_walk _ _ _ _ h1 h2 h3 h4 w
end Go.Proofs.Ytjobgkcoblpbcaa
