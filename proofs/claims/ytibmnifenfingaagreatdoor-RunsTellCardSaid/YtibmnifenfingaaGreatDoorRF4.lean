/- The walks through the document's answers on generators: what is wrong with one. -/
import Derived.Test.YtibmnifenfingaaGreatDoorRF3
namespace Go.Proofs.YtibmnifenfingaaGreatDoor
set_option maxRecDepth 100000
open Go.RowKit
set_option linter.unusedSimpArgs false
set_option linter.unusedVariables false
theorem each_bad {k a b : Int} {s : List GT} {c : Int} (h : GT.oneErr k a b s.length = c) (hc : c ≠ 0) : Hid (GT.eachErr (.mk k a b s) = c) := by
  show _ = _
  simp only [GT.eachErr]
  rw [if_neg (by omega), h]
theorem each_good {k a b : Int} {s : List GT} (h : GT.oneErr k a b s.length = 0) : Hid (GT.eachErr (.mk k a b s) = GT.eachErrL (s.drop 0)) := by
  show _ = _
  simp only [GT.eachErr]
  rw [if_pos h]; rfl
set_option maxHeartbeats 1000000 in
theorem rpf_any (g : GT) : ∀ (v : Value) (w : World), GenAt w v g → Calls Tryz.prog 16 #[v] w fun e w' => e = .returned (.int .i64 (GT.eachErr g)) ∧ Below w.heap.size w w' := by
  induction g using GT.ind with
  | h k a b s ih =>
    intro v w hg
    obtain ⟨k', a', b', s', ad, cap, hmk, rfl, hk, ha, hb, hl, hm, hs⟩ := hg.form
    obtain ⟨rfl, rfl, rfl, rfl⟩ := GT.mk.inj hmk
    have hlen : s.length ≤ 9223372036854775807 := by omega
    have IH := Lib.hid ih
    by_cases h0 : k < 1
    · exact rpf_lo k a b s s.length rfl cap ad ha hb h0 (each_bad (c := 3) (by unfold GT.oneErr; rw [if_neg (by omega), if_neg (by omega), if_neg (by omega), if_neg (by omega)]) (by omega)) IH w hs hlen
    by_cases h5 : 5 < k
    · exact rpf_hi k a b s s.length rfl cap ad ha hb h0 h5 (each_bad (c := 3) (by unfold GT.oneErr; rw [if_neg (by omega), if_neg (by omega), if_neg (by omega), if_neg (by omega)]) (by omega)) IH w hs hlen
    rcases (show k = 1 ∨ k = 2 ∨ k = 3 ∨ k = 4 ∨ k = 5 by omega) with rfl | rfl | rfl | rfl | rfl
    · by_cases fa : GT.far a = true
      · exact rpf_1a a b s s.length rfl cap ad ha hb fa (each_bad (c := 1) (by simp [GT.oneErr, fa]) (by omega)) IH w hs hlen
      · have nfa : GT.far a = false := by simpa using fa
        by_cases h : 0 < s.length
        · exact rpf_1b a b s s.length rfl cap ad ha hb nfa h (each_bad (c := 3) (by simp [GT.oneErr, nfa]; intro e; simp [e] at h) (by omega)) IH w hs hlen
        · have h : s.length = 0 := by omega
          exact rpf_1c a b s s.length rfl cap ad ha hb nfa h (each_good (by simp [GT.oneErr, nfa, h])) IH w hs hlen
    · by_cases fa : GT.far a = true
      · exact rpf_2a a b s s.length rfl cap ad ha hb fa (each_bad (c := 1) (by simp [GT.oneErr, fa]) (by omega)) IH w hs hlen
      have nfa : GT.far a = false := by simpa using fa
      by_cases fb : GT.far b = true
      · exact rpf_2b a b s s.length rfl cap ad ha hb nfa fb (each_bad (c := 1) (by simp [GT.oneErr, fb]) (by omega)) IH w hs hlen
      have nfb : GT.far b = false := by simpa using fb
      by_cases h : b < a
      · exact rpf_2c a b s s.length rfl cap ad ha hb nfa nfb h (each_bad (c := 1) (by simp [GT.oneErr, h]) (by omega)) IH w hs hlen
      by_cases h2 : 1000 < b - a
      · exact rpf_2d a b s s.length rfl cap ad ha hb nfa nfb h h2 (each_bad (c := 1) (by simp [GT.oneErr, h2]) (by omega)) IH w hs hlen
      by_cases h3 : 0 < s.length
      · have hr : ∀ n : Nat, n ≠ 0 → GT.oneErr 2 a b n = 3 := by intro n hn; simp only [GT.oneErr, nfa, nfb]; simp [hn]; omega
        exact rpf_2e a b s s.length rfl cap ad ha hb nfa nfb h h2 h3 (each_bad (hr _ (by omega)) (by omega)) IH w hs hlen
      · have h3 : s.length = 0 := by omega
        exact rpf_2f a b s s.length rfl cap ad ha hb nfa nfb h h2 h3 (each_good (by simp only [GT.oneErr, nfa, nfb, h3]; simp; omega)) IH w hs hlen
    · exact rpf_3 a b s s.length rfl cap ad ha hb (each_good (by simp [GT.oneErr])) IH w hs hlen
    · by_cases h : a < 0
      · exact rpf_4a a b s s.length rfl cap ad ha hb h (each_bad (c := 1) (by simp [GT.oneErr, h]) (by omega)) IH w hs hlen
      by_cases h2 : 5 < a
      · exact rpf_4b a b s s.length rfl cap ad ha hb h h2 (each_bad (c := 1) (by simp [GT.oneErr, h2]) (by omega)) IH w hs hlen
      by_cases h3 : s.length = 1
      · exact rpf_4d a b s s.length rfl cap ad ha hb h h2 h3 (each_good (by simp [GT.oneErr, h3]; omega)) IH w hs hlen
      · exact rpf_4c a b s s.length rfl cap ad ha hb h h2 h3 (each_bad (c := 3) (by simp [GT.oneErr, h3]; omega) (by omega)) IH w hs hlen
    · by_cases h3 : s.length = 0
      · exact rpf_5a a b s s.length rfl cap ad ha hb h3 (each_bad (c := 3) (by simp [GT.oneErr, h3]) (by omega)) IH w hs hlen
      · exact rpf_5b a b s s.length rfl cap ad ha hb h3 (each_good (by simp only [GT.oneErr]; simp [h3])) IH w hs hlen
set_option maxHeartbeats 1000000 in
theorem rgfault_any (g : GT) (v : Value) (w : World) (hg : GenAt w v g) : Calls Tryz.prog 6 #[v] w fun e w' => e = .returned (.int .i64 (GT.check g)) ∧ Below w.heap.size w w' := by
  obtain ⟨k, a, b, s, ad, cap, hmk, rfl, hk, ha, hb, hl, hm, hs⟩ := hg.form
  have C1 : Hid (∀ W, Below w.heap.size w W → Calls Tryz.prog 15 #[.agg #[.int .i64 k, .int .i64 a, .int .i64 b, .slice ad s.length cap], .int .i64 0] W fun e w' => e = .returned (.tuple #[.int .i64 (GT.parts g 0).1, .bool (!(GT.parts g 0).2)]) ∧ Below W.heap.size W w') := fun W h => rlarge_any g 0 (.agg #[.int .i64 k, .int .i64 a, .int .i64 b, .slice ad s.length cap]) W (by omega) (hg.ext h)
  have C2 := Lib.hid (fun W (h : Below w.heap.size w W) => rpf_any g (.agg #[.int .i64 k, .int .i64 a, .int .i64 b, .slice ad s.length cap]) W (hg.ext h))
  have HR : Hid (GT.check g = if (GT.parts g 0).2 then GT.eachErr g else 4) := rfl
  clear hg hmk hs hk ha hb hl hm
  generalize GT.check g = ce at *
  generalize GT.parts g 0 = pg at *
  generalize GT.eachErr g = eg at *
  obtain ⟨pn, pb⟩ := pg
  dsimp only at C1
  cases pb
  · go_enter Tryz.func6, Tryz.ntmps6
    go_wp2_with fail
    refine (C1.out _ (by repeat (first | with_reducible assumption | with_reducible exact Below.refl _ _ | with_reducible apply Below.drew | (with_reducible refine Below.alloc ?_ (by first | omega | (simp only [zA, zS, zD, zN]; omega) | (dsimp only; omega) | (simp only [zA, zS, zD, zN]; dsimp only; omega)) _) | (with_reducible refine Below.setCell ?_ (by first | omega | (simp only [zA, zS, zD, zN]; omega) | (dsimp only; omega) | (simp only [zA, zS, zD, zN]; dsimp only; omega)) _) | (with_reducible apply below_drewN)))).mono ?_
    rintro e w1 ⟨rfl, hb1⟩
    have hB1 : Below w.heap.size w w1 := Below.trans (by repeat (first | with_reducible assumption | with_reducible exact Below.refl _ _ | with_reducible apply Below.drew | (with_reducible refine Below.alloc ?_ (by first | omega | (simp only [zA, zS, zD, zN]; omega) | (dsimp only; omega) | (simp only [zA, zS, zD, zN]; dsimp only; omega)) _) | (with_reducible refine Below.setCell ?_ (by first | omega | (simp only [zA, zS, zD, zN]; omega) | (dsimp only; omega) | (simp only [zA, zS, zD, zN]; dsimp only; omega)) _) | (with_reducible apply below_drewN))) (hb1.mono (by first | omega | (simp only [zA, zS, zD, zN]; omega) | (dsimp only; omega) | (simp only [zA, zS, zD, zN]; dsimp only; omega)))
    obtain ⟨hc1, hf1, hz1⟩ := bcell hb1
    try simp only [zA, zS, zD, zN] at hz1
    clear hb1
    have y1_0 : w.heap.size < w1.heap.size := by omega
    go_wp2_with fail
    go_ret
    exact ⟨by rw [HR.out]; rfl, by repeat (first | with_reducible assumption | with_reducible exact Below.refl _ _ | with_reducible apply Below.drew | (with_reducible refine Below.alloc ?_ (by first | omega | (simp only [zA, zS, zD, zN]; omega) | (dsimp only; omega) | (simp only [zA, zS, zD, zN]; dsimp only; omega)) _) | (with_reducible refine Below.setCell ?_ (by first | omega | (simp only [zA, zS, zD, zN]; omega) | (dsimp only; omega) | (simp only [zA, zS, zD, zN]; dsimp only; omega)) _) | (with_reducible apply below_drewN))⟩
  · go_enter Tryz.func6, Tryz.ntmps6
    go_wp2_with fail
    refine (C1.out _ (by repeat (first | with_reducible assumption | with_reducible exact Below.refl _ _ | with_reducible apply Below.drew | (with_reducible refine Below.alloc ?_ (by first | omega | (simp only [zA, zS, zD, zN]; omega) | (dsimp only; omega) | (simp only [zA, zS, zD, zN]; dsimp only; omega)) _) | (with_reducible refine Below.setCell ?_ (by first | omega | (simp only [zA, zS, zD, zN]; omega) | (dsimp only; omega) | (simp only [zA, zS, zD, zN]; dsimp only; omega)) _) | (with_reducible apply below_drewN)))).mono ?_
    rintro e w1 ⟨rfl, hb1⟩
    have hB1 : Below w.heap.size w w1 := Below.trans (by repeat (first | with_reducible assumption | with_reducible exact Below.refl _ _ | with_reducible apply Below.drew | (with_reducible refine Below.alloc ?_ (by first | omega | (simp only [zA, zS, zD, zN]; omega) | (dsimp only; omega) | (simp only [zA, zS, zD, zN]; dsimp only; omega)) _) | (with_reducible refine Below.setCell ?_ (by first | omega | (simp only [zA, zS, zD, zN]; omega) | (dsimp only; omega) | (simp only [zA, zS, zD, zN]; dsimp only; omega)) _) | (with_reducible apply below_drewN))) (hb1.mono (by first | omega | (simp only [zA, zS, zD, zN]; omega) | (dsimp only; omega) | (simp only [zA, zS, zD, zN]; dsimp only; omega)))
    obtain ⟨hc1, hf1, hz1⟩ := bcell hb1
    try simp only [zA, zS, zD, zN] at hz1
    clear hb1
    have y1_0 : w.heap.size < w1.heap.size := by omega
    go_wp2_with fail
    refine (C2.out _ (by repeat (first | with_reducible assumption | with_reducible exact Below.refl _ _ | with_reducible apply Below.drew | (with_reducible refine Below.alloc ?_ (by first | omega | (simp only [zA, zS, zD, zN]; omega) | (dsimp only; omega) | (simp only [zA, zS, zD, zN]; dsimp only; omega)) _) | (with_reducible refine Below.setCell ?_ (by first | omega | (simp only [zA, zS, zD, zN]; omega) | (dsimp only; omega) | (simp only [zA, zS, zD, zN]; dsimp only; omega)) _) | (with_reducible apply below_drewN)))).mono ?_
    rintro e w2 ⟨rfl, hb2⟩
    have hB2 : Below w.heap.size w w2 := Below.trans (by repeat (first | with_reducible assumption | with_reducible exact Below.refl _ _ | with_reducible apply Below.drew | (with_reducible refine Below.alloc ?_ (by first | omega | (simp only [zA, zS, zD, zN]; omega) | (dsimp only; omega) | (simp only [zA, zS, zD, zN]; dsimp only; omega)) _) | (with_reducible refine Below.setCell ?_ (by first | omega | (simp only [zA, zS, zD, zN]; omega) | (dsimp only; omega) | (simp only [zA, zS, zD, zN]; dsimp only; omega)) _) | (with_reducible apply below_drewN))) (hb2.mono (by first | omega | (simp only [zA, zS, zD, zN]; omega) | (dsimp only; omega) | (simp only [zA, zS, zD, zN]; dsimp only; omega)))
    obtain ⟨hc2, hf2, hz2⟩ := bcell hb2
    try simp only [zA, zS, zD, zN] at hz2
    clear hb2
    have y2_0 : w.heap.size < w2.heap.size := by omega
    go_wp2_with fail
    go_ret
    exact ⟨by rw [HR.out]; rfl, by repeat (first | with_reducible assumption | with_reducible exact Below.refl _ _ | with_reducible apply Below.drew | (with_reducible refine Below.alloc ?_ (by first | omega | (simp only [zA, zS, zD, zN]; omega) | (dsimp only; omega) | (simp only [zA, zS, zD, zN]; dsimp only; omega)) _) | (with_reducible refine Below.setCell ?_ (by first | omega | (simp only [zA, zS, zD, zN]; omega) | (dsimp only; omega) | (simp only [zA, zS, zD, zN]; dsimp only; omega)) _) | (with_reducible apply below_drewN))⟩
end Go.Proofs.YtibmnifenfingaaGreatDoor
