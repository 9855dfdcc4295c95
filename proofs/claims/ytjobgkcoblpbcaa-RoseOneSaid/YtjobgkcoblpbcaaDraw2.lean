/- The walk through Draw. -/
import Derived.Test.YtjobgkcoblpbcaaDraw1
namespace Go.Proofs.Ytjobgkcoblpbcaa
open Go.RowKit
set_option linter.unusedSimpArgs false
set_option linter.unusedVariables false
theorem enter_draw1 (args : Array Value) (w : World) : Sem.run Try.prog (callFunc 42 args) w = .ok (.enter 42 args) w := by
  rfl
theorem stDraw_bd {m : Int} {q : DrawS} {c : Int} {q' : DrawS} (hm : 0 ≤ m) (h : stDraw m q = .ok (c, q')) : 0 ≤ c ∧ c ≤ m := by
  simp only [stDraw, Except.ok.injEq, Prod.mk.injEq] at h
  rw [← h.1]
  exact drawAt_bd m q hm
theorem stDraw_bud {m : Int} {q : DrawS} {c : Int} {q' : DrawS} (h : stDraw m q = .ok (c, q')) : 1099511627776 - q.2.length ≤ 1099511627776 - q'.2.length + 1 := by
  simp only [stDraw, Except.ok.injEq, Prod.mk.injEq] at h
  rw [← h.2]
  simp
  omega
theorem cho_draw (w0 : World) (B p1 p2 : Nat) (h0 : w0.heap.size ≤ B) (hp1 : B ≤ p1) (hp2 : B ≤ p2) (hne : p1 ≠ p2) :
    Cho B 42 p1 p2 stDraw (fun q g W => JDraw w0 B p1 p2 q g W) (fun q => 1099511627776 - q.2.length) where
  enter := enter_draw1
  bd := fun m q c q' hm h => stDraw_bd hm h
  bdd := fun m q c q' hm h => stDraw_bud h
  stay := fun q g w w' h hz hk => h.stay h0 hz hk
  lt := fun q g w h => by
    obtain ⟨ov, h1, h2, h3⟩ := h.own
    refine ⟨hp1, h.seed.lt, hp2, h1.lt, ?_⟩
    rcases h3 with ⟨_, e⟩ | ⟨e, _, _⟩
    · rw [e]; exact ⟨hp2, h1.lt⟩
    · exact World.ownsRow.lt h2 g e
  call := fun m q g w hm0 hm1 hb hJ => by
    obtain ⟨⟨s, gm⟩, out⟩ := q
    refine (draw1_any w0 B p1 p2 h0 hp1 hp2 hne m s gm out g w hm0 hm1 (by simp only at hb; omega) hJ).mono ?_
    rintro e w' ⟨rfl, g', h⟩
    exact ⟨rfl, g', h⟩
/-- The tape that is drawn. -/
def drawR (g : GT) (sd : Nat × Nat) : List Int := match GT.play stDraw g (sd, []) with
  | .ok (_, q) => q.2
  | .error _ => []
theorem draw_play (g : GT) (hc : GT.check g = 0) (sd : Nat × Nat) : ∃ t q, GT.play stDraw g (sd, []) = .ok (t, q) ∧ drawR g sd = q.2 := by
  obtain ⟨t, q, h⟩ := GT.play_total stDraw (fun m q _ => ⟨_, _, rfl⟩) (fun m q c q' hm h => stDraw_bd hm h) g (GT.check_ok hc) (sd, [])
  exact ⟨t, q, h, by simp [drawR, h]⟩
set_option maxHeartbeats 2000000 in
theorem draw_bad (g : GT) (gv sv : Value) (hc : GT.check g ≠ 0) (w : World) (hg : GenAt w gv g) (sd : Nat × Nat) (hsv : SeedAt sv sd) :
    Calls Try.prog 26 #[gv, sv] w fun e w' => e = .returned (.tuple #[.slice none 0 0, errV (GT.check g)]) ∧ Below w.heap.size w w' := by
  obtain ⟨k, a, b, s, ad, cap, hmk, rfl, hk, ha, hb, hl, hm, hs⟩ := hg.form
  obtain ⟨rfl, _, _⟩ := hsv
  have C1 := Lib.hid (fun W (h : Below w.heap.size w W) => check_any g (.agg #[.int .i64 k, .int .i64 a, .int .i64 b, .slice ad s.length cap]) W (hg.ext h))
  rw [errV_ne hc] at *
  clear hc hg hmk hk ha hb hl hm hs
  go_enter Try.func26, Try.ntmps26
  go_wp2_with fail
  refine (C1.out _ (by repeat (first | with_reducible assumption | with_reducible exact Below.refl _ _ | with_reducible apply Below.drew | (with_reducible refine Below.alloc ?_ (by first | omega | (simp only [World.size_alloc, size_setCell, size_drew, size_drewN]; omega) | (dsimp only; omega) | (simp only [World.size_alloc, size_setCell, size_drew, size_drewN]; dsimp only; omega)) _) | (with_reducible refine Below.setCell ?_ (by first | omega | (simp only [World.size_alloc, size_setCell, size_drew, size_drewN]; omega) | (dsimp only; omega) | (simp only [World.size_alloc, size_setCell, size_drew, size_drewN]; dsimp only; omega)) _)))).mono ?_
  rintro e w1 ⟨rfl, hb1⟩
  have hB1 : Below w.heap.size w w1 := Below.trans (by repeat (first | with_reducible assumption | with_reducible exact Below.refl _ _ | with_reducible apply Below.drew | (with_reducible refine Below.alloc ?_ (by first | omega | (simp only [World.size_alloc, size_setCell, size_drew, size_drewN]; omega) | (dsimp only; omega) | (simp only [World.size_alloc, size_setCell, size_drew, size_drewN]; dsimp only; omega)) _) | (with_reducible refine Below.setCell ?_ (by first | omega | (simp only [World.size_alloc, size_setCell, size_drew, size_drewN]; omega) | (dsimp only; omega) | (simp only [World.size_alloc, size_setCell, size_drew, size_drewN]; dsimp only; omega)) _))) (hb1.mono (by first | omega | (simp only [World.size_alloc, size_setCell, size_drew, size_drewN]; omega) | (dsimp only; omega) | (simp only [World.size_alloc, size_setCell, size_drew, size_drewN]; dsimp only; omega)))
  obtain ⟨hc1, hf1, hz1⟩ := bcell hb1
  try simp only [World.size_alloc, size_setCell, size_drew, size_drewN] at hz1
  clear hb1
  have y1_0 : w.heap.size < w1.heap.size := by omega
  have y1_1 : w.heap.size + 1 < w1.heap.size := by omega
  go_wp2_with fail
  go_ret2
  exact ⟨rfl, by repeat (first | with_reducible assumption | with_reducible exact Below.refl _ _ | with_reducible apply Below.drew | (with_reducible refine Below.alloc ?_ (by first | omega | (simp only [World.size_alloc, size_setCell, size_drew, size_drewN]; omega) | (dsimp only; omega) | (simp only [World.size_alloc, size_setCell, size_drew, size_drewN]; dsimp only; omega)) _) | (with_reducible refine Below.setCell ?_ (by first | omega | (simp only [World.size_alloc, size_setCell, size_drew, size_drewN]; omega) | (dsimp only; omega) | (simp only [World.size_alloc, size_setCell, size_drew, size_drewN]; dsimp only; omega)) _))⟩
set_option maxHeartbeats 2000000 in
theorem draw_any (g : GT) (gv sv : Value) (hc : GT.check g = 0) (w : World) (hg : GenAt w gv g) (sd : Nat × Nat) (hsv : SeedAt sv sd) :
    Calls Try.prog 26 #[gv, sv] w fun e w' => (∃ v, e = .returned (.tuple #[v, .nilIface]) ∧ IntsAt w' v (drawR g sd)) ∧ Below w.heap.size w w' := by
  obtain ⟨k, a, b, s, ad, cap, hmk, rfl, hk, ha, hb, hl, hm, hs⟩ := hg.form
  obtain ⟨rfl, _, _⟩ := hsv
  have C1 := Lib.hid (fun W (h : Below w.heap.size w W) => check_any g (.agg #[.int .i64 k, .int .i64 a, .int .i64 b, .slice ad s.length cap]) W (hg.ext h))
  rw [hc, errV_zero] at C1
  have hE := GT.check_ok hc
  have hP := GT.check_parts hc
  have hCo := GT.cost_ok hc
  obtain ⟨t, q, hplay, hR⟩ := draw_play g hc sd
  rw [hR]
  have C2 := Lib.hid (fun p2 W (hp2 : w.heap.size + 1 < p2) (hJ : JDraw w w.heap.size (w.heap.size + 1) p2 (sd, []) p2 W) (hW : Below w.heap.size w W) =>
    made_any (cho_draw w w.heap.size (w.heap.size + 1) p2 (Nat.le_refl _) (by omega) (by omega) (by omega)) w (Nat.le_refl _) g 0 (sd, []) p2 W _ hE hP (by simp; omega) hJ hW hg)
  rw [hplay] at C2
  clear hR hplay hc hk ha hb hl hm hs hmk hg hE hP
  go_enter Try.func26, Try.ntmps26
  go_wp2_with fail
  refine (C1.out _ (by repeat (first | with_reducible assumption | with_reducible exact Below.refl _ _ | with_reducible apply Below.drew | (with_reducible refine Below.alloc ?_ (by first | omega | (simp only [World.size_alloc, size_setCell, size_drew, size_drewN]; omega) | (dsimp only; omega) | (simp only [World.size_alloc, size_setCell, size_drew, size_drewN]; dsimp only; omega)) _) | (with_reducible refine Below.setCell ?_ (by first | omega | (simp only [World.size_alloc, size_setCell, size_drew, size_drewN]; omega) | (dsimp only; omega) | (simp only [World.size_alloc, size_setCell, size_drew, size_drewN]; dsimp only; omega)) _)))).mono ?_
  rintro e w1 ⟨rfl, hb1⟩
  have hB1 : Below w.heap.size w w1 := Below.trans (by repeat (first | with_reducible assumption | with_reducible exact Below.refl _ _ | with_reducible apply Below.drew | (with_reducible refine Below.alloc ?_ (by first | omega | (simp only [World.size_alloc, size_setCell, size_drew, size_drewN]; omega) | (dsimp only; omega) | (simp only [World.size_alloc, size_setCell, size_drew, size_drewN]; dsimp only; omega)) _) | (with_reducible refine Below.setCell ?_ (by first | omega | (simp only [World.size_alloc, size_setCell, size_drew, size_drewN]; omega) | (dsimp only; omega) | (simp only [World.size_alloc, size_setCell, size_drew, size_drewN]; dsimp only; omega)) _))) (hb1.mono (by first | omega | (simp only [World.size_alloc, size_setCell, size_drew, size_drewN]; omega) | (dsimp only; omega) | (simp only [World.size_alloc, size_setCell, size_drew, size_drewN]; dsimp only; omega)))
  have x2 := ((Blk.new (w.alloc (.cells #[.int .i64 k, .int .i64 a, .int .i64 b, .slice ad s.length cap] 43)) #[.int .u64 sd.1, .int .u64 sd.2] 24)).ext hb1
  obtain ⟨hc1, hf1, hz1⟩ := bcell hb1
  simp only [World.size_alloc] at x2 hz1
  clear hb1
  have y1_0 : w.heap.size < w1.heap.size := by omega
  go_wp2_with fail
  have hJ0 : JDraw w w.heap.size (w.heap.size + 1) w1.heap.size (sd, []) w1.heap.size (w1.alloc (.cells #[.slice none 0 0] 38)) :=
    ⟨fun b hb => (Below.heap_alloc w1 _ b (by omega)).trans (hB1.block b hb), by simp; omega, ⟨_, Blk.new _ _ _, OwnInts.nil _ _, .inl ⟨rfl, rfl⟩⟩, x2.alloc _, by simp⟩
  refine (C2.out w1.heap.size _ (by omega) hJ0 (by repeat (first | with_reducible assumption | with_reducible exact Below.refl _ _ | with_reducible apply Below.drew | (with_reducible refine Below.alloc ?_ (by first | omega | (simp only [World.size_alloc, size_setCell, size_drew, size_drewN]; omega) | (dsimp only; omega) | (simp only [World.size_alloc, size_setCell, size_drew, size_drewN]; dsimp only; omega)) _) | (with_reducible refine Below.setCell ?_ (by first | omega | (simp only [World.size_alloc, size_setCell, size_drew, size_drewN]; omega) | (dsimp only; omega) | (simp only [World.size_alloc, size_setCell, size_drew, size_drewN]; dsimp only; omega)) _)))).mono ?_
  rintro e w3 ⟨u, rfl, g', hJ3, ho, _⟩
  have hB3 : Below w.heap.size w w3 := (Below.alloc hB1 (by omega) _).trans (ho.below (by omega) (by omega) (by omega) (by simp; omega))
  obtain ⟨ov, h1, h2, h3⟩ := hJ3.own
  have h4 := h2.at hJ3.in64
  have c3 := h1.cell 0
  simp only [List.getElem?_toArray, List.getElem?_cons_succ, List.getElem?_cons_zero] at c3
  obtain ⟨oad, ocap, rfl, _⟩ := h4.form
  have H4 := Lib.hid h4
  clear h3 h2 h4 h1
  go_wp2_with fail
  go_ret2
  exact ⟨⟨_, rfl, H4.out⟩, hB3⟩
end Go.Proofs.Ytjobgkcoblpbcaa
