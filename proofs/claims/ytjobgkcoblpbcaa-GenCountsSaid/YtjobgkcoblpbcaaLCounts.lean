/- The walk of the statement on counts. -/
import Derived.Test.YtjobgkcoblpbcaaLMade
import Derived.Test.YtjobgkcoblpbcaaPCnt
namespace Go.Proofs.Ytjobgkcoblpbcaa
open Go.RowKit
set_option linter.unusedSimpArgs false
set_option linter.unusedVariables false
namespace GT
theorem countR_zero {g : GT} (h : (countR g).2 = 0) : check g = 0 ∧ (countR g).1 = count g ∧ 1 ≤ count g ∧ count g ≤ 1048576 := by
  by_cases hc : check g = 0
  · by_cases h1 : 1048576 < count g
    · simp [countR, hc, h1] at h
    · have hb := count_bd g (check_ok hc)
      refine ⟨hc, ?_, hb.1, by omega⟩
      simp [countR, hc, h1]
  · simp [countR, hc] at h
theorem countR_ne {g : GT} (h : (countR g).2 ≠ 0) : (countR g).1 = 0 := by
  by_cases hc : check g = 0
  · by_cases h1 : 1048576 < count g
    · simp [countR, hc, h1]
    · simp [countR, hc, h1] at h
  · simp [countR, hc]
theorem any_sum (g h : GT) (k0 k1 : Int) (e0 : (countR g).2 = 0) (e1 : (countR h).2 = 0) (e : (countR (.mk 5 k0 k1 [g, h])).2 = 0) : (countR (.mk 5 k0 k1 [g, h])).1 = (countR g).1 + (countR h).1 := by
  have hg := countR_zero e0
  have hh := countR_zero e1
  have hx := countR_zero e
  have : count (.mk 5 k0 k1 [g, h]) = capped (capped (0 + count g) + count h) := by simp [count, sumC]
  rw [hx.2.1, hg.2.1, hh.2.1]
  have h2 := hx.2.2.2
  rw [this] at h2 ⊢
  unfold capped at *
  omega
theorem both_prod (g h : GT) (k0 k1 : Int) (e0 : (countR g).2 = 0) (e1 : (countR h).2 = 0) (e : (countR (.mk 3 k0 k1 [g, h])).2 = 0) : (countR (.mk 3 k0 k1 [g, h])).1 = (countR g).1 * (countR h).1 := by
  have hg := countR_zero e0
  have hh := countR_zero e1
  have hx := countR_zero e
  have : count (.mk 3 k0 k1 [g, h]) = capped (capped (1 * count g) * count h) := by simp [count, prodC]
  rw [hx.2.1, hg.2.1, hh.2.1]
  have h2 := hx.2.2.2
  rw [this] at h2 ⊢
  have e1 : capped (1 * count g) = count g := by unfold capped; omega
  rw [e1] at h2 ⊢
  generalize count g * count h = z at *
  unfold capped at *
  omega
theorem many_sum (g : GT) (n k1 : Int) (e0 : (countR g).2 = 0) (e : (countR (.mk 4 n k1 [g])).2 = 0) : 0 ≤ n ∧ n ≤ 5 ∧ (countR (.mk 4 n k1 [g])).1 = geo (countR g).1 (n.toNat + 1) ∧ geo (countR g).1 (n.toNat + 1) ≤ 1048576 := by
  have hg := countR_zero e0
  have hx := countR_zero e
  have ho := one_cases (ok_one (check_ok hx.1))
  have hn : 0 ≤ n ∧ n ≤ 5 := by
    rcases ho with h | h | h | h | h
    · omega
    · omega
    · omega
    · exact ⟨h.2.2.1, h.2.2.2⟩
    · omega
  have : count (.mk 4 n k1 [g]) = capped (geo (count g) (n.toNat + 1)) := by simp only [count, manyC]; simp [many_geo _ hg.2.2.1]
  rw [hx.2.1, hg.2.1]
  have h2 := hx.2.2.2
  rw [this] at h2 ⊢
  unfold capped at *
  omega
end GT
theorem pair_at {W : World} {b : Nat} {k a c k' a' c' : Int} {t t' cap cap' : Nat} {ad ad' : Option Addr} {g h : GT} (hb : Blk W b #[.int .i64 k, .int .i64 a, .int .i64 c, .slice ad t cap, .int .i64 k', .int .i64 a', .int .i64 c', .slice ad' t' cap'] 43)
    (hg : GenAt W (.agg #[.int .i64 k, .int .i64 a, .int .i64 c, .slice ad t cap]) g) (hh : GenAt W (.agg #[.int .i64 k', .int .i64 a', .int .i64 c', .slice ad' t' cap']) h) (kk aa cc : Int) (i1 : In64 kk) (i2 : In64 aa) (i3 : In64 cc) :
    GenAt W (.agg #[.int .i64 kk, .int .i64 aa, .int .i64 cc, .slice (some ⟨b, 0, none⟩) 2 2]) (.mk kk aa cc [g, h]) := by
  refine GenAt.make (s := [g, h]) i1 i2 i3 (by simp) (by simp) ⟨fun _ => ⟨b, 0, rfl, hb.lt, fun i hi => ?_⟩⟩
  match i, hi with
  | 0, _ => exact ⟨_, _, _, _, _, _, hb.cell 0, hb.cell 1, hb.cell 2, hb.cell 3, hg⟩
  | 1, _ => exact ⟨_, _, _, _, _, _, hb.cell 4, hb.cell 5, hb.cell 6, hb.cell 7, hh⟩
theorem lone_at {W : World} {b : Nat} {k a c : Int} {t cap : Nat} {ad : Option Addr} {g : GT} (hb : Blk W b #[.int .i64 k, .int .i64 a, .int .i64 c, .slice ad t cap] 43)
    (hg : GenAt W (.agg #[.int .i64 k, .int .i64 a, .int .i64 c, .slice ad t cap]) g) (kk aa cc : Int) (i1 : In64 kk) (i2 : In64 aa) (i3 : In64 cc) :
    GenAt W (.agg #[.int .i64 kk, .int .i64 aa, .int .i64 cc, .slice (some ⟨b, 0, none⟩) 1 1]) (.mk kk aa cc [g]) := by
  refine GenAt.make (s := [g]) i1 i2 i3 (by simp) (by simp) ⟨fun _ => ⟨b, 0, rfl, hb.lt, fun i hi => ?_⟩⟩
  match i, hi with
  | 0, _ => exact ⟨_, _, _, _, _, _, hb.cell 0, hb.cell 1, hb.cell 2, hb.cell 3, hg⟩
set_option maxHeartbeats 4000000 in
theorem counts_go {v0 v1 v2 : Value} (w : World) (g : GT) (o0 : GenAt w v0 g) (h : GT) (o1 : GenAt w v1 h) (n : Int) (o2 : IntAt v2 n) :
    Calls Try.prog 8 #[v0, v1, v2] w fun e w' => e = .returned (.bool true) ∧ Below w.heap.size w w' := by
  obtain ⟨rfl, hn⟩ := o2
  obtain ⟨k, a, b, t, ad, cap, rfl⟩ := o0.shape
  obtain ⟨k', a', b', t', ad', cap', rfl⟩ := o1.shape
  have C0 := Lib.hid (fun W => made_fact W)
  have C1 := Lib.hid (fun W (hb : Below w.heap.size w W) => gen_count_any g _ W (o0.ext hb))
  have C2 := Lib.hid (fun W (hb : Below w.heap.size w W) => gen_count_any h _ W (o1.ext hb))
  have C3 := Lib.hid (fun W bb (hb : Below w.heap.size w W) (hB : Blk W bb _ 43) => gen_count_any (.mk 5 0 0 [g, h]) _ W (pair_at hB (o0.ext hb) (o1.ext hb) 5 0 0 (by unfold In64; omega) (by unfold In64; omega) (by unfold In64; omega)))
  have C4 := Lib.hid (fun W bb (hb : Below w.heap.size w W) (hB : Blk W bb _ 43) => gen_count_any (.mk 3 0 0 [g, h]) _ W (pair_at hB (o0.ext hb) (o1.ext hb) 3 0 0 (by unfold In64; omega) (by unfold In64; omega) (by unfold In64; omega)))
  have C5 := Lib.hid (fun W bb (hb : Below w.heap.size w W) (hB : Blk W bb _ 43) => gen_count_any (.mk 4 n 0 [g]) _ W (lone_at hB (o0.ext hb) 4 n 0 (by unfold In64; omega) hn (by unfold In64; omega)))
  have P3 := Lib.hid (GT.any_sum g h 0 0)
  have P4 := Lib.hid (GT.both_prod g h 0 0)
  have P5 := Lib.hid (GT.many_sum g n 0)
  have Pg := Lib.hid (fun e => (@GT.countR_zero g e).2)
  have Ph := Lib.hid (fun e => (@GT.countR_zero h e).2)
  have Ng := Lib.hid (@GT.countR_ne g)
  have Nh := Lib.hid (@GT.countR_ne h)
  have hgb : Hid ((GT.countR g).2 = 0 → (GT.countR g).1 = GT.count g) := fun e => (GT.countR_zero e).2.1
  have hhb : Hid ((GT.countR h).2 = 0 → (GT.countR h).1 = GT.count h) := fun e => (GT.countR_zero e).2.1
  clear o0 o1
  generalize GT.count g = cg at *
  generalize GT.count h = ch at *
  generalize GT.countR g = R1 at *
  generalize GT.countR h = R2 at *
  generalize GT.countR (.mk 5 0 0 [g, h]) = R3 at *
  generalize GT.countR (.mk 3 0 0 [g, h]) = R4 at *
  generalize GT.countR (.mk 4 n 0 [g]) = R5 at *
  obtain ⟨x1, e1⟩ := R1
  obtain ⟨x2, e2⟩ := R2
  by_cases h1 : e1 = 0
  · by_cases h2 : e2 = 0
    · subst h1 h2
      have q1 := Pg.out rfl
      have q2 := Ph.out rfl
      have q1' := hgb.out rfl
      have q2' := hhb.out rfl
      dsimp only at q1 q2 q1' q2'
      subst q1' q2'
      have Q3 := Lib.hid (P3.out rfl rfl)
      have Q4 := Lib.hid (P4.out rfl rfl)
      have Q5 := Lib.hid (P5.out rfl)
      simp only [errV_zero] at C1 C2
      clear Pg Ph hgb hhb Ng Nh P3 P4 P5
      obtain ⟨x3, e3⟩ := R3
      obtain ⟨x4, e4⟩ := R4
      obtain ⟨x5, e5⟩ := R5
      dsimp only at Q3 Q4 Q5 q1 q2 C1 C2 C3 C4 C5
      go_enter Try.func8, Try.ntmps8
      go_wp2_with fail
      refine (C0.out _).mono ?_
      rintro e w1 ⟨rfl, hb1⟩
      have hB1 : Below w.heap.size w w1 := Below.trans (by repeat (first | with_reducible assumption | with_reducible exact Below.refl _ _ | with_reducible apply Below.drew | (with_reducible refine Below.alloc ?_ (by first | omega | (simp only [World.size_alloc, size_setCell, size_drew, size_drewN]; omega) | (dsimp only; omega) | (simp only [World.size_alloc, size_setCell, size_drew, size_drewN]; dsimp only; omega)) _) | (with_reducible refine Below.setCell ?_ (by first | omega | (simp only [World.size_alloc, size_setCell, size_drew, size_drewN]; omega) | (dsimp only; omega) | (simp only [World.size_alloc, size_setCell, size_drew, size_drewN]; dsimp only; omega)) _))) (hb1.mono (by first | omega | (simp only [World.size_alloc, size_setCell, size_drew, size_drewN]; omega) | (dsimp only; omega) | (simp only [World.size_alloc, size_setCell, size_drew, size_drewN]; dsimp only; omega)))
      obtain ⟨hc1, hf1, hz1⟩ := bcell hb1
      try simp only [World.size_alloc, size_setCell, size_drew, size_drewN] at hz1
      clear hb1
      have y1_0 : w.heap.size < w1.heap.size := by omega
      have y1_1 : w.heap.size + 1 < w1.heap.size := by omega
      go_wp2_with fail
      refine (C1.out _ (by repeat (first | with_reducible assumption | with_reducible exact Below.refl _ _ | with_reducible apply Below.drew | (with_reducible refine Below.alloc ?_ (by first | omega | (simp only [World.size_alloc, size_setCell, size_drew, size_drewN]; omega) | (dsimp only; omega) | (simp only [World.size_alloc, size_setCell, size_drew, size_drewN]; dsimp only; omega)) _) | (with_reducible refine Below.setCell ?_ (by first | omega | (simp only [World.size_alloc, size_setCell, size_drew, size_drewN]; omega) | (dsimp only; omega) | (simp only [World.size_alloc, size_setCell, size_drew, size_drewN]; dsimp only; omega)) _)))).mono ?_
      rintro e w2 ⟨rfl, hb2⟩
      have hB2 : Below w.heap.size w w2 := Below.trans (by repeat (first | with_reducible assumption | with_reducible exact Below.refl _ _ | with_reducible apply Below.drew | (with_reducible refine Below.alloc ?_ (by first | omega | (simp only [World.size_alloc, size_setCell, size_drew, size_drewN]; omega) | (dsimp only; omega) | (simp only [World.size_alloc, size_setCell, size_drew, size_drewN]; dsimp only; omega)) _) | (with_reducible refine Below.setCell ?_ (by first | omega | (simp only [World.size_alloc, size_setCell, size_drew, size_drewN]; omega) | (dsimp only; omega) | (simp only [World.size_alloc, size_setCell, size_drew, size_drewN]; dsimp only; omega)) _))) (hb2.mono (by first | omega | (simp only [World.size_alloc, size_setCell, size_drew, size_drewN]; omega) | (dsimp only; omega) | (simp only [World.size_alloc, size_setCell, size_drew, size_drewN]; dsimp only; omega)))
      obtain ⟨hc2, hf2, hz2⟩ := bcell hb2
      try simp only [World.size_alloc, size_setCell, size_drew, size_drewN] at hz2
      clear hb2
      have y2_0 : w.heap.size < w2.heap.size := by omega
      have y2_1 : w.heap.size + 1 < w2.heap.size := by omega
      go_wp2_with fail
      refine (C2.out _ (by repeat (first | with_reducible assumption | with_reducible exact Below.refl _ _ | with_reducible apply Below.drew | (with_reducible refine Below.alloc ?_ (by first | omega | (simp only [World.size_alloc, size_setCell, size_drew, size_drewN]; omega) | (dsimp only; omega) | (simp only [World.size_alloc, size_setCell, size_drew, size_drewN]; dsimp only; omega)) _) | (with_reducible refine Below.setCell ?_ (by first | omega | (simp only [World.size_alloc, size_setCell, size_drew, size_drewN]; omega) | (dsimp only; omega) | (simp only [World.size_alloc, size_setCell, size_drew, size_drewN]; dsimp only; omega)) _)))).mono ?_
      rintro e w3 ⟨rfl, hb3⟩
      have hB3 : Below w.heap.size w w3 := Below.trans (by repeat (first | with_reducible assumption | with_reducible exact Below.refl _ _ | with_reducible apply Below.drew | (with_reducible refine Below.alloc ?_ (by first | omega | (simp only [World.size_alloc, size_setCell, size_drew, size_drewN]; omega) | (dsimp only; omega) | (simp only [World.size_alloc, size_setCell, size_drew, size_drewN]; dsimp only; omega)) _) | (with_reducible refine Below.setCell ?_ (by first | omega | (simp only [World.size_alloc, size_setCell, size_drew, size_drewN]; omega) | (dsimp only; omega) | (simp only [World.size_alloc, size_setCell, size_drew, size_drewN]; dsimp only; omega)) _))) (hb3.mono (by first | omega | (simp only [World.size_alloc, size_setCell, size_drew, size_drewN]; omega) | (dsimp only; omega) | (simp only [World.size_alloc, size_setCell, size_drew, size_drewN]; dsimp only; omega)))
      obtain ⟨hc3, hf3, hz3⟩ := bcell hb3
      try simp only [World.size_alloc, size_setCell, size_drew, size_drewN] at hz3
      clear hb3
      have y3_0 : w.heap.size < w3.heap.size := by omega
      have y3_1 : w.heap.size + 1 < w3.heap.size := by omega
      go_wp2_with fail
      refine (C3.out _ _ (by repeat (first | with_reducible assumption | with_reducible exact Below.refl _ _ | with_reducible apply Below.drew | (with_reducible refine Below.alloc ?_ (by first | omega | (simp only [World.size_alloc, size_setCell, size_drew, size_drewN]; omega) | (dsimp only; omega) | (simp only [World.size_alloc, size_setCell, size_drew, size_drewN]; dsimp only; omega)) _) | (with_reducible refine Below.setCell ?_ (by first | omega | (simp only [World.size_alloc, size_setCell, size_drew, size_drewN]; omega) | (dsimp only; omega) | (simp only [World.size_alloc, size_setCell, size_drew, size_drewN]; dsimp only; omega)) _))) (Blk.new _ _ _)).mono ?_
      rintro e w4 ⟨rfl, hb4⟩
      have hB4 : Below w.heap.size w w4 := Below.trans (by repeat (first | with_reducible assumption | with_reducible exact Below.refl _ _ | with_reducible apply Below.drew | (with_reducible refine Below.alloc ?_ (by first | omega | (simp only [World.size_alloc, size_setCell, size_drew, size_drewN]; omega) | (dsimp only; omega) | (simp only [World.size_alloc, size_setCell, size_drew, size_drewN]; dsimp only; omega)) _) | (with_reducible refine Below.setCell ?_ (by first | omega | (simp only [World.size_alloc, size_setCell, size_drew, size_drewN]; omega) | (dsimp only; omega) | (simp only [World.size_alloc, size_setCell, size_drew, size_drewN]; dsimp only; omega)) _))) (hb4.mono (by first | omega | (simp only [World.size_alloc, size_setCell, size_drew, size_drewN]; omega) | (dsimp only; omega) | (simp only [World.size_alloc, size_setCell, size_drew, size_drewN]; dsimp only; omega)))
      obtain ⟨hc4, hf4, hz4⟩ := bcell hb4
      try simp only [World.size_alloc, size_setCell, size_drew, size_drewN] at hz4
      clear hb4
      have y4_0 : w.heap.size < w4.heap.size := by omega
      have y4_1 : w.heap.size + 1 < w4.heap.size := by omega
      go_wp2_with fail
      refine (C4.out _ _ (by repeat (first | with_reducible assumption | with_reducible exact Below.refl _ _ | with_reducible apply Below.drew | (with_reducible refine Below.alloc ?_ (by first | omega | (simp only [World.size_alloc, size_setCell, size_drew, size_drewN]; omega) | (dsimp only; omega) | (simp only [World.size_alloc, size_setCell, size_drew, size_drewN]; dsimp only; omega)) _) | (with_reducible refine Below.setCell ?_ (by first | omega | (simp only [World.size_alloc, size_setCell, size_drew, size_drewN]; omega) | (dsimp only; omega) | (simp only [World.size_alloc, size_setCell, size_drew, size_drewN]; dsimp only; omega)) _))) (Blk.new _ _ _)).mono ?_
      rintro e w5 ⟨rfl, hb5⟩
      have hB5 : Below w.heap.size w w5 := Below.trans (by repeat (first | with_reducible assumption | with_reducible exact Below.refl _ _ | with_reducible apply Below.drew | (with_reducible refine Below.alloc ?_ (by first | omega | (simp only [World.size_alloc, size_setCell, size_drew, size_drewN]; omega) | (dsimp only; omega) | (simp only [World.size_alloc, size_setCell, size_drew, size_drewN]; dsimp only; omega)) _) | (with_reducible refine Below.setCell ?_ (by first | omega | (simp only [World.size_alloc, size_setCell, size_drew, size_drewN]; omega) | (dsimp only; omega) | (simp only [World.size_alloc, size_setCell, size_drew, size_drewN]; dsimp only; omega)) _))) (hb5.mono (by first | omega | (simp only [World.size_alloc, size_setCell, size_drew, size_drewN]; omega) | (dsimp only; omega) | (simp only [World.size_alloc, size_setCell, size_drew, size_drewN]; dsimp only; omega)))
      obtain ⟨hc5, hf5, hz5⟩ := bcell hb5
      try simp only [World.size_alloc, size_setCell, size_drew, size_drewN] at hz5
      clear hb5
      have y5_0 : w.heap.size < w5.heap.size := by omega
      have y5_1 : w.heap.size + 1 < w5.heap.size := by omega
      go_wp2_with fail
      refine (C5.out _ _ (by repeat (first | with_reducible assumption | with_reducible exact Below.refl _ _ | with_reducible apply Below.drew | (with_reducible refine Below.alloc ?_ (by first | omega | (simp only [World.size_alloc, size_setCell, size_drew, size_drewN]; omega) | (dsimp only; omega) | (simp only [World.size_alloc, size_setCell, size_drew, size_drewN]; dsimp only; omega)) _) | (with_reducible refine Below.setCell ?_ (by first | omega | (simp only [World.size_alloc, size_setCell, size_drew, size_drewN]; omega) | (dsimp only; omega) | (simp only [World.size_alloc, size_setCell, size_drew, size_drewN]; dsimp only; omega)) _))) (Blk.new _ _ _)).mono ?_
      rintro e w6 ⟨rfl, hb6⟩
      have hB6 : Below w.heap.size w w6 := Below.trans (by repeat (first | with_reducible assumption | with_reducible exact Below.refl _ _ | with_reducible apply Below.drew | (with_reducible refine Below.alloc ?_ (by first | omega | (simp only [World.size_alloc, size_setCell, size_drew, size_drewN]; omega) | (dsimp only; omega) | (simp only [World.size_alloc, size_setCell, size_drew, size_drewN]; dsimp only; omega)) _) | (with_reducible refine Below.setCell ?_ (by first | omega | (simp only [World.size_alloc, size_setCell, size_drew, size_drewN]; omega) | (dsimp only; omega) | (simp only [World.size_alloc, size_setCell, size_drew, size_drewN]; dsimp only; omega)) _))) (hb6.mono (by first | omega | (simp only [World.size_alloc, size_setCell, size_drew, size_drewN]; omega) | (dsimp only; omega) | (simp only [World.size_alloc, size_setCell, size_drew, size_drewN]; dsimp only; omega)))
      obtain ⟨hc6, hf6, hz6⟩ := bcell hb6
      try simp only [World.size_alloc, size_setCell, size_drew, size_drewN] at hz6
      clear hb6
      have y6_0 : w.heap.size < w6.heap.size := by omega
      have y6_1 : w.heap.size + 1 < w6.heap.size := by omega
      clear C0 C1 C2 C3 C4 C5
      have hmul := GT.mul_bd (n := x1) (m := x2) (by omega) (by omega) (by omega) (by omega)
      have hm1 := hmul.1
      have hm2 := hmul.2
      have hx11 := q1.2.1
      have hx12 := q1.2.2
      have hx21 := q2.2.1
      have hx22 := q2.2.2
      have hmw : IntKind.i64.wrap (x1 * x2) = x1 * x2 := by rw [IntKind.wrap_i64]; omega
      clear hmul q1 q2
      have k3 : (e3 = 0 ∧ x3 = x1 + x2) ∨ e3 ≠ 0 := by
        by_cases h : e3 = 0
        · exact .inl ⟨h, Q3.out h⟩
        · exact .inr h
      have k4 : (e4 = 0 ∧ x4 = x1 * x2) ∨ e4 ≠ 0 := by
        by_cases h : e4 = 0
        · exact .inl ⟨h, Q4.out h⟩
        · exact .inr h
      have HP5 := Lib.hid Q5.out
      clear Q3 Q4 Q5
      by_cases h5 : e5 = 0
      · obtain ⟨hn0, hn5, hx5, hge⟩ := HP5.out h5
        subst h5
        obtain ⟨m, rfl⟩ := Int.eq_ofNat_of_zero_le hn0
        have hm5 : m ≤ 5 := by omega
        simp only [Int.toNat_natCast] at hx5 hge
        have HX5 := Lib.hid hx5
        have HGE := Lib.hid hge
        clear hx5 hge HP5 hn5 hn0
        simp only [errV_zero]
        rcases k3 with ⟨rfl, rfl⟩ | k3
        · rcases k4 with ⟨rfl, rfl⟩ | k4
          · simp only [errV_zero]
            go_wp2_with fail
            go_loopw [18, 19, 20] (fun a b c wr => ∃ (j : Nat) (sm p : Int), j ≤ m + 1 ∧ a = .int .i64 sm ∧ b = .int .i64 p ∧ c = .int .i64 j ∧ Hid (sm = GT.geo x1 j) ∧ Hid (p = x1 ^ j) ∧ wr = w6) (fun _ _ c _ => m + 1 - (intOf c).toNat)
            case atStart => exact ⟨0, 0, 1, by omega, rfl, rfl, rfl, rfl, by show (1:Int) = x1 ^ 0; simp, rfl⟩
            case round =>
              obtain ⟨j, sm, p, hj, rfl, rfl, rfl, HS, HPW, rfl⟩ := hrel
              by_cases hjm : j ≤ m
              · have b1 := GT.pow_le_geo x1 hx11 j
                have b2 := GT.geo_le x1 hx11 (j + 1) (m + 1) (by omega)
                have b3 := GT.geo_le x1 hx11 j (m + 1) (by omega)
                have b4 := GT.geo_nonneg x1 hx11 j
                have b5 : 0 < x1 ^ j := Int.pow_pos (by omega)
                have b6 := HGE.out
                rw [← HPW.out] at b1 b5
                rw [← HS.out] at b3 b4
                have c1 : 1 ≤ p := by omega
                have c2 : p ≤ 1048576 := by omega
                have c3 : sm ≤ 1048576 := by omega
                have b7 := GT.mul_bd (n := p) (m := x1) (by omega) (by omega) (by omega) (by omega)
                have hpw : IntKind.i64.wrap (p * x1) = p * x1 := by rw [IntKind.wrap_i64]; omega
                have N1 : Hid (sm + p = GT.geo x1 (j + 1)) := by show _ = _; rw [HS.out, HPW.out]; rfl
                have N2 : Hid (p * x1 = x1 ^ (j + 1)) := by show _ = _; rw [HPW.out, Int.pow_succ]
                have p1 : (j : Int) ≤ (m : Int) := by omega
                clear b1 b2 b3 b5 b6 b7 HS HPW
                go_wp2_with fail
                exact ⟨⟨j + 1, _, _, by omega, rfl, rfl, by go_num, N1, N2, by trivial⟩, by simp [intOf]; omega⟩
              · have hjj : j = m + 1 := by omega
                subst hjj
                have hfin : x5 = sm := HX5.out.trans HS.out.symm
                subst hfin
                have p1 : ¬ (((m + 1 : Nat) : Int) ≤ (m : Int)) := by omega
                clear HS HPW hjm hj
                go_wp2_with fail
                go_ret
                exact ⟨by simp, by repeat (first | with_reducible assumption | with_reducible exact Below.refl _ _ | with_reducible apply Below.drew | (with_reducible refine Below.alloc ?_ (by first | omega | (simp only [World.size_alloc, size_setCell, size_drew, size_drewN]; omega) | (dsimp only; omega) | (simp only [World.size_alloc, size_setCell, size_drew, size_drewN]; dsimp only; omega)) _) | (with_reducible refine Below.setCell ?_ (by first | omega | (simp only [World.size_alloc, size_setCell, size_drew, size_drewN]; omega) | (dsimp only; omega) | (simp only [World.size_alloc, size_setCell, size_drew, size_drewN]; dsimp only; omega)) _))⟩
          · simp only [errV_zero, errV_ne k4]
            clear k4
            go_wp2_with fail
            go_loopw [18, 19, 20] (fun a b c wr => ∃ (j : Nat) (sm p : Int), j ≤ m + 1 ∧ a = .int .i64 sm ∧ b = .int .i64 p ∧ c = .int .i64 j ∧ Hid (sm = GT.geo x1 j) ∧ Hid (p = x1 ^ j) ∧ wr = w6) (fun _ _ c _ => m + 1 - (intOf c).toNat)
            case atStart => exact ⟨0, 0, 1, by omega, rfl, rfl, rfl, rfl, by show (1:Int) = x1 ^ 0; simp, rfl⟩
            case round =>
              obtain ⟨j, sm, p, hj, rfl, rfl, rfl, HS, HPW, rfl⟩ := hrel
              by_cases hjm : j ≤ m
              · have b1 := GT.pow_le_geo x1 hx11 j
                have b2 := GT.geo_le x1 hx11 (j + 1) (m + 1) (by omega)
                have b3 := GT.geo_le x1 hx11 j (m + 1) (by omega)
                have b4 := GT.geo_nonneg x1 hx11 j
                have b5 : 0 < x1 ^ j := Int.pow_pos (by omega)
                have b6 := HGE.out
                rw [← HPW.out] at b1 b5
                rw [← HS.out] at b3 b4
                have c1 : 1 ≤ p := by omega
                have c2 : p ≤ 1048576 := by omega
                have c3 : sm ≤ 1048576 := by omega
                have b7 := GT.mul_bd (n := p) (m := x1) (by omega) (by omega) (by omega) (by omega)
                have hpw : IntKind.i64.wrap (p * x1) = p * x1 := by rw [IntKind.wrap_i64]; omega
                have N1 : Hid (sm + p = GT.geo x1 (j + 1)) := by show _ = _; rw [HS.out, HPW.out]; rfl
                have N2 : Hid (p * x1 = x1 ^ (j + 1)) := by show _ = _; rw [HPW.out, Int.pow_succ]
                have p1 : (j : Int) ≤ (m : Int) := by omega
                clear b1 b2 b3 b5 b6 b7 HS HPW
                go_wp2_with fail
                exact ⟨⟨j + 1, _, _, by omega, rfl, rfl, by go_num, N1, N2, by trivial⟩, by simp [intOf]; omega⟩
              · have hjj : j = m + 1 := by omega
                subst hjj
                have hfin : x5 = sm := HX5.out.trans HS.out.symm
                subst hfin
                have p1 : ¬ (((m + 1 : Nat) : Int) ≤ (m : Int)) := by omega
                clear HS HPW hjm hj
                go_wp2_with fail
                go_ret
                exact ⟨by simp, by repeat (first | with_reducible assumption | with_reducible exact Below.refl _ _ | with_reducible apply Below.drew | (with_reducible refine Below.alloc ?_ (by first | omega | (simp only [World.size_alloc, size_setCell, size_drew, size_drewN]; omega) | (dsimp only; omega) | (simp only [World.size_alloc, size_setCell, size_drew, size_drewN]; dsimp only; omega)) _) | (with_reducible refine Below.setCell ?_ (by first | omega | (simp only [World.size_alloc, size_setCell, size_drew, size_drewN]; omega) | (dsimp only; omega) | (simp only [World.size_alloc, size_setCell, size_drew, size_drewN]; dsimp only; omega)) _))⟩
        · simp only [errV_ne k3]
          clear k3
          rcases k4 with ⟨rfl, rfl⟩ | k4
          · simp only [errV_zero]
            go_wp2_with fail
            go_loopw [18, 19, 20] (fun a b c wr => ∃ (j : Nat) (sm p : Int), j ≤ m + 1 ∧ a = .int .i64 sm ∧ b = .int .i64 p ∧ c = .int .i64 j ∧ Hid (sm = GT.geo x1 j) ∧ Hid (p = x1 ^ j) ∧ wr = w6) (fun _ _ c _ => m + 1 - (intOf c).toNat)
            case atStart => exact ⟨0, 0, 1, by omega, rfl, rfl, rfl, rfl, by show (1:Int) = x1 ^ 0; simp, rfl⟩
            case round =>
              obtain ⟨j, sm, p, hj, rfl, rfl, rfl, HS, HPW, rfl⟩ := hrel
              by_cases hjm : j ≤ m
              · have b1 := GT.pow_le_geo x1 hx11 j
                have b2 := GT.geo_le x1 hx11 (j + 1) (m + 1) (by omega)
                have b3 := GT.geo_le x1 hx11 j (m + 1) (by omega)
                have b4 := GT.geo_nonneg x1 hx11 j
                have b5 : 0 < x1 ^ j := Int.pow_pos (by omega)
                have b6 := HGE.out
                rw [← HPW.out] at b1 b5
                rw [← HS.out] at b3 b4
                have c1 : 1 ≤ p := by omega
                have c2 : p ≤ 1048576 := by omega
                have c3 : sm ≤ 1048576 := by omega
                have b7 := GT.mul_bd (n := p) (m := x1) (by omega) (by omega) (by omega) (by omega)
                have hpw : IntKind.i64.wrap (p * x1) = p * x1 := by rw [IntKind.wrap_i64]; omega
                have N1 : Hid (sm + p = GT.geo x1 (j + 1)) := by show _ = _; rw [HS.out, HPW.out]; rfl
                have N2 : Hid (p * x1 = x1 ^ (j + 1)) := by show _ = _; rw [HPW.out, Int.pow_succ]
                have p1 : (j : Int) ≤ (m : Int) := by omega
                clear b1 b2 b3 b5 b6 b7 HS HPW
                go_wp2_with fail
                exact ⟨⟨j + 1, _, _, by omega, rfl, rfl, by go_num, N1, N2, by trivial⟩, by simp [intOf]; omega⟩
              · have hjj : j = m + 1 := by omega
                subst hjj
                have hfin : x5 = sm := HX5.out.trans HS.out.symm
                subst hfin
                have p1 : ¬ (((m + 1 : Nat) : Int) ≤ (m : Int)) := by omega
                clear HS HPW hjm hj
                go_wp2_with fail
                go_ret
                exact ⟨by simp, by repeat (first | with_reducible assumption | with_reducible exact Below.refl _ _ | with_reducible apply Below.drew | (with_reducible refine Below.alloc ?_ (by first | omega | (simp only [World.size_alloc, size_setCell, size_drew, size_drewN]; omega) | (dsimp only; omega) | (simp only [World.size_alloc, size_setCell, size_drew, size_drewN]; dsimp only; omega)) _) | (with_reducible refine Below.setCell ?_ (by first | omega | (simp only [World.size_alloc, size_setCell, size_drew, size_drewN]; omega) | (dsimp only; omega) | (simp only [World.size_alloc, size_setCell, size_drew, size_drewN]; dsimp only; omega)) _))⟩
          · simp only [errV_ne k4]
            clear k4
            go_wp2_with fail
            go_loopw [18, 19, 20] (fun a b c wr => ∃ (j : Nat) (sm p : Int), j ≤ m + 1 ∧ a = .int .i64 sm ∧ b = .int .i64 p ∧ c = .int .i64 j ∧ Hid (sm = GT.geo x1 j) ∧ Hid (p = x1 ^ j) ∧ wr = w6) (fun _ _ c _ => m + 1 - (intOf c).toNat)
            case atStart => exact ⟨0, 0, 1, by omega, rfl, rfl, rfl, rfl, by show (1:Int) = x1 ^ 0; simp, rfl⟩
            case round =>
              obtain ⟨j, sm, p, hj, rfl, rfl, rfl, HS, HPW, rfl⟩ := hrel
              by_cases hjm : j ≤ m
              · have b1 := GT.pow_le_geo x1 hx11 j
                have b2 := GT.geo_le x1 hx11 (j + 1) (m + 1) (by omega)
                have b3 := GT.geo_le x1 hx11 j (m + 1) (by omega)
                have b4 := GT.geo_nonneg x1 hx11 j
                have b5 : 0 < x1 ^ j := Int.pow_pos (by omega)
                have b6 := HGE.out
                rw [← HPW.out] at b1 b5
                rw [← HS.out] at b3 b4
                have c1 : 1 ≤ p := by omega
                have c2 : p ≤ 1048576 := by omega
                have c3 : sm ≤ 1048576 := by omega
                have b7 := GT.mul_bd (n := p) (m := x1) (by omega) (by omega) (by omega) (by omega)
                have hpw : IntKind.i64.wrap (p * x1) = p * x1 := by rw [IntKind.wrap_i64]; omega
                have N1 : Hid (sm + p = GT.geo x1 (j + 1)) := by show _ = _; rw [HS.out, HPW.out]; rfl
                have N2 : Hid (p * x1 = x1 ^ (j + 1)) := by show _ = _; rw [HPW.out, Int.pow_succ]
                have p1 : (j : Int) ≤ (m : Int) := by omega
                clear b1 b2 b3 b5 b6 b7 HS HPW
                go_wp2_with fail
                exact ⟨⟨j + 1, _, _, by omega, rfl, rfl, by go_num, N1, N2, by trivial⟩, by simp [intOf]; omega⟩
              · have hjj : j = m + 1 := by omega
                subst hjj
                have hfin : x5 = sm := HX5.out.trans HS.out.symm
                subst hfin
                have p1 : ¬ (((m + 1 : Nat) : Int) ≤ (m : Int)) := by omega
                clear HS HPW hjm hj
                go_wp2_with fail
                go_ret
                exact ⟨by simp, by repeat (first | with_reducible assumption | with_reducible exact Below.refl _ _ | with_reducible apply Below.drew | (with_reducible refine Below.alloc ?_ (by first | omega | (simp only [World.size_alloc, size_setCell, size_drew, size_drewN]; omega) | (dsimp only; omega) | (simp only [World.size_alloc, size_setCell, size_drew, size_drewN]; dsimp only; omega)) _) | (with_reducible refine Below.setCell ?_ (by first | omega | (simp only [World.size_alloc, size_setCell, size_drew, size_drewN]; omega) | (dsimp only; omega) | (simp only [World.size_alloc, size_setCell, size_drew, size_drewN]; dsimp only; omega)) _))⟩
      · simp only [errV_ne h5]
        clear h5 HP5
        rcases k3 with ⟨rfl, rfl⟩ | k3
        · rcases k4 with ⟨rfl, rfl⟩ | k4
          · simp only [errV_zero]
            go_wp2_with fail
            go_loopw [18, 19, 20] (fun a b c wr => a = .int .i64 0 ∧ b = .int .i64 1 ∧ c = .int .i64 0 ∧ wr = w6) (fun _ _ _ _ => 0)
            case atStart => exact ⟨rfl, rfl, rfl, rfl⟩
            case round =>
              obtain ⟨rfl, rfl, rfl, rfl⟩ := hrel
              go_wp2_with fail
              all_goals go_ret
              all_goals exact ⟨rfl, by repeat (first | with_reducible assumption | with_reducible exact Below.refl _ _ | with_reducible apply Below.drew | (with_reducible refine Below.alloc ?_ (by first | omega | (simp only [World.size_alloc, size_setCell, size_drew, size_drewN]; omega) | (dsimp only; omega) | (simp only [World.size_alloc, size_setCell, size_drew, size_drewN]; dsimp only; omega)) _) | (with_reducible refine Below.setCell ?_ (by first | omega | (simp only [World.size_alloc, size_setCell, size_drew, size_drewN]; omega) | (dsimp only; omega) | (simp only [World.size_alloc, size_setCell, size_drew, size_drewN]; dsimp only; omega)) _))⟩
          · simp only [errV_zero, errV_ne k4]
            generalize x1 * x2 = z at *
            clear k4
            go_wp2_with fail
            go_loopw [18, 19, 20] (fun a b c wr => a = .int .i64 0 ∧ b = .int .i64 1 ∧ c = .int .i64 0 ∧ wr = w6) (fun _ _ _ _ => 0)
            case atStart => exact ⟨rfl, rfl, rfl, rfl⟩
            case round =>
              obtain ⟨rfl, rfl, rfl, rfl⟩ := hrel
              go_wp2_with fail
              all_goals go_ret
              all_goals exact ⟨rfl, by repeat (first | with_reducible assumption | with_reducible exact Below.refl _ _ | with_reducible apply Below.drew | (with_reducible refine Below.alloc ?_ (by first | omega | (simp only [World.size_alloc, size_setCell, size_drew, size_drewN]; omega) | (dsimp only; omega) | (simp only [World.size_alloc, size_setCell, size_drew, size_drewN]; dsimp only; omega)) _) | (with_reducible refine Below.setCell ?_ (by first | omega | (simp only [World.size_alloc, size_setCell, size_drew, size_drewN]; omega) | (dsimp only; omega) | (simp only [World.size_alloc, size_setCell, size_drew, size_drewN]; dsimp only; omega)) _))⟩
        · simp only [errV_ne k3]
          clear k3
          rcases k4 with ⟨rfl, rfl⟩ | k4
          · simp only [errV_zero]
            go_wp2_with fail
            go_loopw [18, 19, 20] (fun a b c wr => a = .int .i64 0 ∧ b = .int .i64 1 ∧ c = .int .i64 0 ∧ wr = w6) (fun _ _ _ _ => 0)
            case atStart => exact ⟨rfl, rfl, rfl, rfl⟩
            case round =>
              obtain ⟨rfl, rfl, rfl, rfl⟩ := hrel
              go_wp2_with fail
              all_goals go_ret
              all_goals exact ⟨rfl, by repeat (first | with_reducible assumption | with_reducible exact Below.refl _ _ | with_reducible apply Below.drew | (with_reducible refine Below.alloc ?_ (by first | omega | (simp only [World.size_alloc, size_setCell, size_drew, size_drewN]; omega) | (dsimp only; omega) | (simp only [World.size_alloc, size_setCell, size_drew, size_drewN]; dsimp only; omega)) _) | (with_reducible refine Below.setCell ?_ (by first | omega | (simp only [World.size_alloc, size_setCell, size_drew, size_drewN]; omega) | (dsimp only; omega) | (simp only [World.size_alloc, size_setCell, size_drew, size_drewN]; dsimp only; omega)) _))⟩
          · simp only [errV_ne k4]
            generalize x1 * x2 = z at *
            clear k4
            go_wp2_with fail
            go_loopw [18, 19, 20] (fun a b c wr => a = .int .i64 0 ∧ b = .int .i64 1 ∧ c = .int .i64 0 ∧ wr = w6) (fun _ _ _ _ => 0)
            case atStart => exact ⟨rfl, rfl, rfl, rfl⟩
            case round =>
              obtain ⟨rfl, rfl, rfl, rfl⟩ := hrel
              go_wp2_with fail
              all_goals go_ret
              all_goals exact ⟨rfl, by repeat (first | with_reducible assumption | with_reducible exact Below.refl _ _ | with_reducible apply Below.drew | (with_reducible refine Below.alloc ?_ (by first | omega | (simp only [World.size_alloc, size_setCell, size_drew, size_drewN]; omega) | (dsimp only; omega) | (simp only [World.size_alloc, size_setCell, size_drew, size_drewN]; dsimp only; omega)) _) | (with_reducible refine Below.setCell ?_ (by first | omega | (simp only [World.size_alloc, size_setCell, size_drew, size_drewN]; omega) | (dsimp only; omega) | (simp only [World.size_alloc, size_setCell, size_drew, size_drewN]; dsimp only; omega)) _))⟩
    · have hx := Nh.out h2
      dsimp only at hx
      subst hx h1
      simp only [errV_zero, errV_ne h2] at C1 C2
      clear Pg Ph P3 P4 P5 hgb hhb Ng Nh C3 C4 C5 h2
      go_enter Try.func8, Try.ntmps8
      go_wp2_with fail
      refine (C0.out _).mono ?_
      rintro e w1 ⟨rfl, hb1⟩
      have hB1 : Below w.heap.size w w1 := Below.trans (by repeat (first | with_reducible assumption | with_reducible exact Below.refl _ _ | with_reducible apply Below.drew | (with_reducible refine Below.alloc ?_ (by first | omega | (simp only [World.size_alloc, size_setCell, size_drew, size_drewN]; omega) | (dsimp only; omega) | (simp only [World.size_alloc, size_setCell, size_drew, size_drewN]; dsimp only; omega)) _) | (with_reducible refine Below.setCell ?_ (by first | omega | (simp only [World.size_alloc, size_setCell, size_drew, size_drewN]; omega) | (dsimp only; omega) | (simp only [World.size_alloc, size_setCell, size_drew, size_drewN]; dsimp only; omega)) _))) (hb1.mono (by first | omega | (simp only [World.size_alloc, size_setCell, size_drew, size_drewN]; omega) | (dsimp only; omega) | (simp only [World.size_alloc, size_setCell, size_drew, size_drewN]; dsimp only; omega)))
      obtain ⟨hc1, hf1, hz1⟩ := bcell hb1
      try simp only [World.size_alloc, size_setCell, size_drew, size_drewN] at hz1
      clear hb1
      have y1_0 : w.heap.size < w1.heap.size := by omega
      have y1_1 : w.heap.size + 1 < w1.heap.size := by omega
      go_wp2_with fail
      refine (C1.out _ (by repeat (first | with_reducible assumption | with_reducible exact Below.refl _ _ | with_reducible apply Below.drew | (with_reducible refine Below.alloc ?_ (by first | omega | (simp only [World.size_alloc, size_setCell, size_drew, size_drewN]; omega) | (dsimp only; omega) | (simp only [World.size_alloc, size_setCell, size_drew, size_drewN]; dsimp only; omega)) _) | (with_reducible refine Below.setCell ?_ (by first | omega | (simp only [World.size_alloc, size_setCell, size_drew, size_drewN]; omega) | (dsimp only; omega) | (simp only [World.size_alloc, size_setCell, size_drew, size_drewN]; dsimp only; omega)) _)))).mono ?_
      rintro e w2 ⟨rfl, hb2⟩
      have hB2 : Below w.heap.size w w2 := Below.trans (by repeat (first | with_reducible assumption | with_reducible exact Below.refl _ _ | with_reducible apply Below.drew | (with_reducible refine Below.alloc ?_ (by first | omega | (simp only [World.size_alloc, size_setCell, size_drew, size_drewN]; omega) | (dsimp only; omega) | (simp only [World.size_alloc, size_setCell, size_drew, size_drewN]; dsimp only; omega)) _) | (with_reducible refine Below.setCell ?_ (by first | omega | (simp only [World.size_alloc, size_setCell, size_drew, size_drewN]; omega) | (dsimp only; omega) | (simp only [World.size_alloc, size_setCell, size_drew, size_drewN]; dsimp only; omega)) _))) (hb2.mono (by first | omega | (simp only [World.size_alloc, size_setCell, size_drew, size_drewN]; omega) | (dsimp only; omega) | (simp only [World.size_alloc, size_setCell, size_drew, size_drewN]; dsimp only; omega)))
      obtain ⟨hc2, hf2, hz2⟩ := bcell hb2
      try simp only [World.size_alloc, size_setCell, size_drew, size_drewN] at hz2
      clear hb2
      have y2_0 : w.heap.size < w2.heap.size := by omega
      have y2_1 : w.heap.size + 1 < w2.heap.size := by omega
      go_wp2_with fail
      refine (C2.out _ (by repeat (first | with_reducible assumption | with_reducible exact Below.refl _ _ | with_reducible apply Below.drew | (with_reducible refine Below.alloc ?_ (by first | omega | (simp only [World.size_alloc, size_setCell, size_drew, size_drewN]; omega) | (dsimp only; omega) | (simp only [World.size_alloc, size_setCell, size_drew, size_drewN]; dsimp only; omega)) _) | (with_reducible refine Below.setCell ?_ (by first | omega | (simp only [World.size_alloc, size_setCell, size_drew, size_drewN]; omega) | (dsimp only; omega) | (simp only [World.size_alloc, size_setCell, size_drew, size_drewN]; dsimp only; omega)) _)))).mono ?_
      rintro e w3 ⟨rfl, hb3⟩
      have hB3 : Below w.heap.size w w3 := Below.trans (by repeat (first | with_reducible assumption | with_reducible exact Below.refl _ _ | with_reducible apply Below.drew | (with_reducible refine Below.alloc ?_ (by first | omega | (simp only [World.size_alloc, size_setCell, size_drew, size_drewN]; omega) | (dsimp only; omega) | (simp only [World.size_alloc, size_setCell, size_drew, size_drewN]; dsimp only; omega)) _) | (with_reducible refine Below.setCell ?_ (by first | omega | (simp only [World.size_alloc, size_setCell, size_drew, size_drewN]; omega) | (dsimp only; omega) | (simp only [World.size_alloc, size_setCell, size_drew, size_drewN]; dsimp only; omega)) _))) (hb3.mono (by first | omega | (simp only [World.size_alloc, size_setCell, size_drew, size_drewN]; omega) | (dsimp only; omega) | (simp only [World.size_alloc, size_setCell, size_drew, size_drewN]; dsimp only; omega)))
      obtain ⟨hc3, hf3, hz3⟩ := bcell hb3
      try simp only [World.size_alloc, size_setCell, size_drew, size_drewN] at hz3
      clear hb3
      have y3_0 : w.heap.size < w3.heap.size := by omega
      have y3_1 : w.heap.size + 1 < w3.heap.size := by omega
      go_wp2_with fail
      all_goals go_ret
      all_goals exact ⟨rfl, by repeat (first | with_reducible assumption | with_reducible exact Below.refl _ _ | with_reducible apply Below.drew | (with_reducible refine Below.alloc ?_ (by first | omega | (simp only [World.size_alloc, size_setCell, size_drew, size_drewN]; omega) | (dsimp only; omega) | (simp only [World.size_alloc, size_setCell, size_drew, size_drewN]; dsimp only; omega)) _) | (with_reducible refine Below.setCell ?_ (by first | omega | (simp only [World.size_alloc, size_setCell, size_drew, size_drewN]; omega) | (dsimp only; omega) | (simp only [World.size_alloc, size_setCell, size_drew, size_drewN]; dsimp only; omega)) _))⟩
  · have hx := Ng.out h1
    dsimp only at hx
    subst hx
    simp only [errV_ne h1] at C1
    clear Pg Ph P3 P4 P5 hgb hhb Ng Nh C3 C4 C5 h1
    generalize errV e2 = ev2 at *
    go_enter Try.func8, Try.ntmps8
    go_wp2_with fail
    refine (C0.out _).mono ?_
    rintro e w1 ⟨rfl, hb1⟩
    have hB1 : Below w.heap.size w w1 := Below.trans (by repeat (first | with_reducible assumption | with_reducible exact Below.refl _ _ | with_reducible apply Below.drew | (with_reducible refine Below.alloc ?_ (by first | omega | (simp only [World.size_alloc, size_setCell, size_drew, size_drewN]; omega) | (dsimp only; omega) | (simp only [World.size_alloc, size_setCell, size_drew, size_drewN]; dsimp only; omega)) _) | (with_reducible refine Below.setCell ?_ (by first | omega | (simp only [World.size_alloc, size_setCell, size_drew, size_drewN]; omega) | (dsimp only; omega) | (simp only [World.size_alloc, size_setCell, size_drew, size_drewN]; dsimp only; omega)) _))) (hb1.mono (by first | omega | (simp only [World.size_alloc, size_setCell, size_drew, size_drewN]; omega) | (dsimp only; omega) | (simp only [World.size_alloc, size_setCell, size_drew, size_drewN]; dsimp only; omega)))
    obtain ⟨hc1, hf1, hz1⟩ := bcell hb1
    try simp only [World.size_alloc, size_setCell, size_drew, size_drewN] at hz1
    clear hb1
    have y1_0 : w.heap.size < w1.heap.size := by omega
    have y1_1 : w.heap.size + 1 < w1.heap.size := by omega
    go_wp2_with fail
    refine (C1.out _ (by repeat (first | with_reducible assumption | with_reducible exact Below.refl _ _ | with_reducible apply Below.drew | (with_reducible refine Below.alloc ?_ (by first | omega | (simp only [World.size_alloc, size_setCell, size_drew, size_drewN]; omega) | (dsimp only; omega) | (simp only [World.size_alloc, size_setCell, size_drew, size_drewN]; dsimp only; omega)) _) | (with_reducible refine Below.setCell ?_ (by first | omega | (simp only [World.size_alloc, size_setCell, size_drew, size_drewN]; omega) | (dsimp only; omega) | (simp only [World.size_alloc, size_setCell, size_drew, size_drewN]; dsimp only; omega)) _)))).mono ?_
    rintro e w2 ⟨rfl, hb2⟩
    have hB2 : Below w.heap.size w w2 := Below.trans (by repeat (first | with_reducible assumption | with_reducible exact Below.refl _ _ | with_reducible apply Below.drew | (with_reducible refine Below.alloc ?_ (by first | omega | (simp only [World.size_alloc, size_setCell, size_drew, size_drewN]; omega) | (dsimp only; omega) | (simp only [World.size_alloc, size_setCell, size_drew, size_drewN]; dsimp only; omega)) _) | (with_reducible refine Below.setCell ?_ (by first | omega | (simp only [World.size_alloc, size_setCell, size_drew, size_drewN]; omega) | (dsimp only; omega) | (simp only [World.size_alloc, size_setCell, size_drew, size_drewN]; dsimp only; omega)) _))) (hb2.mono (by first | omega | (simp only [World.size_alloc, size_setCell, size_drew, size_drewN]; omega) | (dsimp only; omega) | (simp only [World.size_alloc, size_setCell, size_drew, size_drewN]; dsimp only; omega)))
    obtain ⟨hc2, hf2, hz2⟩ := bcell hb2
    try simp only [World.size_alloc, size_setCell, size_drew, size_drewN] at hz2
    clear hb2
    have y2_0 : w.heap.size < w2.heap.size := by omega
    have y2_1 : w.heap.size + 1 < w2.heap.size := by omega
    go_wp2_with fail
    refine (C2.out _ (by repeat (first | with_reducible assumption | with_reducible exact Below.refl _ _ | with_reducible apply Below.drew | (with_reducible refine Below.alloc ?_ (by first | omega | (simp only [World.size_alloc, size_setCell, size_drew, size_drewN]; omega) | (dsimp only; omega) | (simp only [World.size_alloc, size_setCell, size_drew, size_drewN]; dsimp only; omega)) _) | (with_reducible refine Below.setCell ?_ (by first | omega | (simp only [World.size_alloc, size_setCell, size_drew, size_drewN]; omega) | (dsimp only; omega) | (simp only [World.size_alloc, size_setCell, size_drew, size_drewN]; dsimp only; omega)) _)))).mono ?_
    rintro e w3 ⟨rfl, hb3⟩
    have hB3 : Below w.heap.size w w3 := Below.trans (by repeat (first | with_reducible assumption | with_reducible exact Below.refl _ _ | with_reducible apply Below.drew | (with_reducible refine Below.alloc ?_ (by first | omega | (simp only [World.size_alloc, size_setCell, size_drew, size_drewN]; omega) | (dsimp only; omega) | (simp only [World.size_alloc, size_setCell, size_drew, size_drewN]; dsimp only; omega)) _) | (with_reducible refine Below.setCell ?_ (by first | omega | (simp only [World.size_alloc, size_setCell, size_drew, size_drewN]; omega) | (dsimp only; omega) | (simp only [World.size_alloc, size_setCell, size_drew, size_drewN]; dsimp only; omega)) _))) (hb3.mono (by first | omega | (simp only [World.size_alloc, size_setCell, size_drew, size_drewN]; omega) | (dsimp only; omega) | (simp only [World.size_alloc, size_setCell, size_drew, size_drewN]; dsimp only; omega)))
    obtain ⟨hc3, hf3, hz3⟩ := bcell hb3
    try simp only [World.size_alloc, size_setCell, size_drew, size_drewN] at hz3
    clear hb3
    have y3_0 : w.heap.size < w3.heap.size := by omega
    have y3_1 : w.heap.size + 1 < w3.heap.size := by omega
    go_wp2_with fail
    all_goals go_ret
    all_goals exact ⟨rfl, by repeat (first | with_reducible assumption | with_reducible exact Below.refl _ _ | with_reducible apply Below.drew | (with_reducible refine Below.alloc ?_ (by first | omega | (simp only [World.size_alloc, size_setCell, size_drew, size_drewN]; omega) | (dsimp only; omega) | (simp only [World.size_alloc, size_setCell, size_drew, size_drewN]; dsimp only; omega)) _) | (with_reducible refine Below.setCell ?_ (by first | omega | (simp only [World.size_alloc, size_setCell, size_drew, size_drewN]; omega) | (dsimp only; omega) | (simp only [World.size_alloc, size_setCell, size_drew, size_drewN]; dsimp only; omega)) _))⟩
end Go.Proofs.Ytjobgkcoblpbcaa
