/- RoseOne: the walk through the statement. -/
import Derived.Test.YtjobgkcoblpbcaaRose3
import Derived.Test.YtjobgkcoblpbcaaLMade
import Derived.Test.YtjobgkcoblpbcaaPDraw
import Derived.Test.YtjobgkcoblpbcaaPCost
import Derived.Test.YtjobgkcoblpbcaaLRose
namespace Go.Proofs.Ytjobgkcoblpbcaa
open Go.RowKit
set_option linter.unusedSimpArgs false
set_option linter.unusedVariables false
theorem one_fit {a b x : Int} (h : (playR (.mk 2 a b []) [x]).2 = 0) : 0 ≤ x ∧ x ≤ b - a ∧ x ≤ 1000 := by
  have h1 := (played_fit h).2.1 x (by simp)
  have hc := (played_fit h).1
  have hb : x ≤ b - a := by
    simp only [playR, hc, if_true, GT.play, show ¬ ((2:Int) = 1) by decide, if_false] at h
    cases hs : stPlay [x] (b - a) 0 with
    | error e =>
      rw [hs] at h
      simp only at h
      have := stPlay_err hs
      omega
    | ok r =>
      obtain ⟨c, q⟩ := r
      have h2 := stPlay_bd hs
      obtain ⟨_, hi, e⟩ := stPlay_le hs
      simp at e
      omega
  omega
/-- A row of one number. -/
theorem IntsS.single {w : World} {S : Nat → Prop} {v : Value} {y : Int} (h : IntsS w S v [y]) : ∃ b off cap, v = .slice (some ⟨b, off, none⟩) 1 cap ∧ w.cell? ⟨b, off, none⟩ = some (.int .i64 y) := by
  obtain ⟨_, ad, cap, rfl, h1, h2, h3, h4⟩ := h
  obtain ⟨bl, off, rfl, _, _, hc⟩ := h4 (by simp)
  exact ⟨bl, off, cap, rfl, by simpa using hc 0 (by simp)⟩
set_option maxRecDepth 100000 in
set_option maxHeartbeats 4000000 in
theorem roseOne_go {v0 v1 v2 : Value} (w : World) (a : Int) (o0 : IntAt v0 a) (b : Int) (o1 : IntAt v1 b) (x : Int) (o2 : IntAt v2 x) :
    Calls Try.prog 12 #[v0, v1, v2] w fun e w' => e = .returned (.bool true) ∧ Below w.heap.size w w' := by
  obtain ⟨rfl, ha⟩ := o0
  obtain ⟨rfl, hb⟩ := o1
  obtain ⟨rfl, hx⟩ := o2
  have HG : ∀ W, Hid (GenAt W (.agg #[.int .i64 2, .int .i64 a, .int .i64 b, .slice none 0 0]) (.mk 2 a b [])) := fun W =>
    GenAt.mk (s := []) ⟨by omega, by omega⟩ ha hb (by simp) (by simp) (fun _ => rfl) (fun _ => .nilIface) (fun h => absurd h (by simp)) (fun i hi => absurd hi (by simp))
  have HX := Lib.hid hx
  obtain ⟨ha1, ha2⟩ := ha
  obtain ⟨hb1, hb2⟩ := hb
  obtain ⟨hx1, hx2⟩ := hx
  go_enter Try.func12, Try.ntmps12
  go_wp2_with fail
  refine (made_fact _).mono ?_
  rintro e w1 ⟨rfl, hb1⟩
  have hB1 : Below w.heap.size w w1 := Below.trans (by repeat (first | with_reducible assumption | with_reducible exact Below.refl _ _ | with_reducible apply Below.drew | (with_reducible refine Below.alloc ?_ (by first | omega | (simp only [World.size_alloc, size_setCell, size_drew, size_drewN]; omega) | (dsimp only; omega) | (simp only [World.size_alloc, size_setCell, size_drew, size_drewN]; dsimp only; omega)) _) | (with_reducible refine Below.setCell ?_ (by first | omega | (simp only [World.size_alloc, size_setCell, size_drew, size_drewN]; omega) | (dsimp only; omega) | (simp only [World.size_alloc, size_setCell, size_drew, size_drewN]; dsimp only; omega)) _))) (hb1.mono (by first | omega | (simp only [World.size_alloc, size_setCell, size_drew, size_drewN]; omega) | (dsimp only; omega) | (simp only [World.size_alloc, size_setCell, size_drew, size_drewN]; dsimp only; omega)))
  clear hb1
  go_wp2_with fail
  have hI : Hid (IntsAt ((w1.alloc (.cells #[.int .i64 2, .int .i64 a, .int .i64 b, .slice none 0 0] 43)).alloc (.cells #[.int .i64 x] 3)) (.slice (some ⟨w1.heap.size + 1, 0, none⟩) 1 1) [x]) := by
    refine ⟨fun n hn => by rw [List.mem_singleton.1 hn]; exact HX.out, .inr ⟨_, 1, rfl, by simp, by decide, fun i hi => ?_⟩⟩
    have : i = 0 := by simpa using hi
    subst this
    rw [addr_add]
    exact (Blk.newAt (w := w1.alloc (.cells #[.int .i64 2, .int .i64 a, .int .i64 b, .slice none 0 0] 43)) (cs := #[.int .i64 x]) (t := 3) (by simp)).cell 0
  have hB2 : Below w.heap.size w ((w1.alloc (.cells #[.int .i64 2, .int .i64 a, .int .i64 b, .slice none 0 0] 43)).alloc (.cells #[.int .i64 x] 3)) := by have := hB1.size; repeat (first | with_reducible assumption | with_reducible exact Below.refl _ _ | with_reducible apply Below.drew | (with_reducible refine Below.alloc ?_ (by first | omega | (simp only [World.size_alloc, size_setCell, size_drew, size_drewN]; omega) | (dsimp only; omega) | (simp only [World.size_alloc, size_setCell, size_drew, size_drewN]; dsimp only; omega)) _) | (with_reducible refine Below.setCell ?_ (by first | omega | (simp only [World.size_alloc, size_setCell, size_drew, size_drewN]; omega) | (dsimp only; omega) | (simp only [World.size_alloc, size_setCell, size_drew, size_drewN]; dsimp only; omega)) _))
  by_cases hp : (playR (.mk 2 a b []) [x]).2 = 0
  · refine (rose_ok (.mk 2 a b []) [x] hp _ _ _ (HG _).out hI.out).mono ?_
    rintro e w3 ⟨⟨u, rfl, hu⟩, hb3⟩
    have hB3 : Below w.heap.size w w3 := hB2.trans (hb3.mono hB2.size)
    have hf := one_fit hp
    rw [less_of_one a b [] x hf.1 hf.2.1] at hu
    by_cases hx0 : x = 0
    · subst hx0
      rw [if_pos rfl] at hu
      obtain ⟨ad, cap, rfl, _⟩ := hu
      clear hb3 hf hp
      go_wp2_with fail
      go_ret
      exact ⟨rfl, hB3⟩
    · rw [if_neg hx0] at hu
      have e0 : (x == 0) = false := by simp [hx0]
      have hxx := hf.1
      have hxm := hf.2.2
      obtain ⟨ad, cap, rfl, _, hm, _, hc⟩ := hu
      obtain ⟨bl, off, rfl, _, _, hcc⟩ := hc (by simp)
      obtain ⟨r0, k0, h0⟩ := hcc 0 (by simp)
      obtain ⟨r1, k1, h1⟩ := hcc 1 (by simp)
      obtain ⟨r2, k2, h2⟩ := hcc 2 (by simp)
      obtain ⟨r3, k3, h3⟩ := hcc 3 (by simp)
      obtain ⟨b0, f0, c0, rfl, g0⟩ := IntsS.single h0
      obtain ⟨b1, f1, c1, rfl, g1⟩ := IntsS.single h1
      obtain ⟨b2, f2, c2, rfl, g2⟩ := IntsS.single h2
      obtain ⟨b3, f3, c3, rfl, g3⟩ := IntsS.single h3
      rw [Nat.add_zero] at k0
      unfold maxLen at hm
      have hx0' := hx0
      have hd : (x / 2 == x / 2) = true := by simp
      have hd2 : (x - 1 == x - 1) = true := by simp
      clear hc hcc h0 h1 h2 h3 hb3 hp hI hx0 hf
      go_wp2_with fail
      go_ret
      exact ⟨rfl, hB3⟩
  · refine (rose_bad (.mk 2 a b []) [x] hp _ _ _ (HG _).out hI.out).mono ?_
    rintro e w3 ⟨rfl, hb3⟩
    have hB3 : Below w.heap.size w w3 := hB2.trans (hb3.mono hB2.size)
    rw [errV_ne hp]
    clear hp hb3 hI
    go_wp2_with fail
    go_ret
    exact ⟨rfl, hB3⟩
end Go.Proofs.Ytjobgkcoblpbcaa
