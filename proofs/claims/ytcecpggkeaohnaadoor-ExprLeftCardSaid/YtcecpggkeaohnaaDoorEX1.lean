/- The walks through an expression's check. -/
import Derived.Test.YtcecpggkeaohnaaDoorEXP
namespace Go.Proofs.YtcecpggkeaohnaaDoor
set_option maxRecDepth 100000
open Go.RowKit
set_option linter.unusedSimpArgs false
set_option linter.unusedVariables false
theorem takes_bd (k : Int) : -1 ≤ ET.takes k ∧ ET.takes k ≤ 2 := by
  unfold ET.takes; split; omega; split; omega; split <;> omega
set_option maxHeartbeats 4000000 in
theorem xeach_any (g : ET) : ∀ (v : Value) (w : World), TakesAt w → ExprAt w v g → Calls Tryd.prog 60 #[v] w fun e w' => e = .returned (errV (ET.eachErr g)) ∧ Below w.heap.size w w' := by
  induction g using ET.ind with
  | h k n s ih =>
    intro v w hT hg
    obtain ⟨k', n', s', ad, cap, hmk, rfl, hk, hn, hl, hm, hs⟩ := hg.form
    obtain ⟨rfl, rfl, rfl⟩ := ET.mk.inj hmk
    clear hg hmk
    have IH := Lib.hid ih
    clear ih
    have HT := Lib.hid hT
    clear hT
    by_cases h1 : k < 1
    · have hr : ET.eachErr (.mk k n s) = 3 := by simp [ET.eachErr, h1]
      rw [hr]
      have q1 : decide (k < 1) = true := decide_eq_true h1
      clear hr
      go_enter Tryd.func60, Tryd.ntmps60
      go_wp2_with fail
      go_quiet (fail)
      go_wp2_with fail
      go_ret
      exact ⟨rfl, by repeat (first | with_reducible assumption | with_reducible exact Below.refl _ _ | with_reducible apply Below.drew | (with_reducible refine Below.alloc ?_ (by first | omega | (simp only [World.size_alloc, size_setCell, size_drew, size_drewN]; omega) | (dsimp only; omega) | (simp only [World.size_alloc, size_setCell, size_drew, size_drewN]; dsimp only; omega)) _) | (with_reducible refine Below.setCell ?_ (by first | omega | (simp only [World.size_alloc, size_setCell, size_drew, size_drewN]; omega) | (dsimp only; omega) | (simp only [World.size_alloc, size_setCell, size_drew, size_drewN]; dsimp only; omega)) _) | (with_reducible apply below_drewN))⟩
    · by_cases h2 : 11 < k
      · have hr : ET.eachErr (.mk k n s) = 3 := by simp [ET.eachErr, h2]
        rw [hr]
        have q1 : decide (k < 1) = false := decide_eq_false h1
        have q2 : decide (11 < k) = true := decide_eq_true h2
        clear hr
        go_enter Tryd.func60, Tryd.ntmps60
        go_wp2_with fail
        go_quiet (fail)
        go_wp2_with fail
        go_ret
        exact ⟨rfl, by repeat (first | with_reducible assumption | with_reducible exact Below.refl _ _ | with_reducible apply Below.drew | (with_reducible refine Below.alloc ?_ (by first | omega | (simp only [World.size_alloc, size_setCell, size_drew, size_drewN]; omega) | (dsimp only; omega) | (simp only [World.size_alloc, size_setCell, size_drew, size_drewN]; dsimp only; omega)) _) | (with_reducible refine Below.setCell ?_ (by first | omega | (simp only [World.size_alloc, size_setCell, size_drew, size_drewN]; omega) | (dsimp only; omega) | (simp only [World.size_alloc, size_setCell, size_drew, size_drewN]; dsimp only; omega)) _) | (with_reducible apply below_drewN))⟩
      · have q1 : decide (k < 1) = false := decide_eq_false h1
        have q2 : decide (11 < k) = false := decide_eq_false h2
        have hk1 : 1 ≤ k := by omega
        have hk2 : k ≤ 11 := by omega
        obtain ⟨K, rfl⟩ := Int.eq_ofNat_of_zero_le (show 0 ≤ k by omega)
        have hcell := (TakesAt.ext HT.out (Below.alloc (Below.refl _ _) (by omega) (.cells #[.int .i64 (K : Int), .int .i64 n, .slice ad s.length cap] 24))) K (by omega)
        have HE1 : Hid (ET.eachErr (.mk (K : Int) n s) = if ET.takes K ≠ s.length then 3 else ET.eachErrL s) := by
          show _ = _
          simp only [ET.eachErr]
          simp [h1, h2]
        have hTB := takes_bd K
        generalize ET.takes K = tk at *
        by_cases h3 : tk = s.length
        · have hr : ET.eachErr (.mk (K : Int) n s) = ET.eachErrL (s.drop 0) := by rw [HE1.out, if_neg (by simpa using h3)]; rfl
          rw [hr]
          have q3 : (tk != (s.length : Int)) = false := by simpa using h3
          clear hr HE1 h1 h2
          have q4 : (K : Int) < 12 := by omega
          go_enter Tryd.func60, Tryd.ntmps60
          go_wp2_with fail
          go_quiet (fail)
          go_wp2_with fail
          generalize hWW : (w.alloc (.cells #[.int .i64 (K : Int), .int .i64 n, .slice ad s.length cap] 24)).drewN nq = W0
          have hB0 : Below w.heap.size w W0 := by rw [← hWW]; repeat (first | with_reducible assumption | with_reducible exact Below.refl _ _ | with_reducible apply Below.drew | (with_reducible refine Below.alloc ?_ (by first | omega | (simp only [World.size_alloc, size_setCell, size_drew, size_drewN]; omega) | (dsimp only; omega) | (simp only [World.size_alloc, size_setCell, size_drew, size_drewN]; dsimp only; omega)) _) | (with_reducible refine Below.setCell ?_ (by first | omega | (simp only [World.size_alloc, size_setCell, size_drew, size_drewN]; omega) | (dsimp only; omega) | (simp only [World.size_alloc, size_setCell, size_drew, size_drewN]; dsimp only; omega)) _) | (with_reducible apply below_drewN))
          have hs1 := hs.ext hB0
          have HT1 := Lib.hid (HT.out.ext hB0)
          clear hs hWW HT hcell
          go_loopw [28] (fun i wr => ∃ (j : Nat), j ≤ s.length ∧ i = .int .i64 j ∧ Below W0.heap.size W0 wr ∧ Hid (ET.eachErrL (s.drop 0) = ET.eachErrL (s.drop j))) (fun i _ => s.length - (intOf i).toNat)
          case atStart => exact ⟨0, by omega, rfl, Below.refl _ _, rfl⟩
          case round =>
            obtain ⟨j, hj, rfl, hb2, HE⟩ := hrel
            have hzr := hb2.size
            have hz0 := hB0.size
            have hBr : Below w.heap.size w wr := hB0.trans (hb2.mono hB0.size)
            by_cases hlt : j < s.length
            · have p0 : (0 : Int) ≤ (j : Int) := by omega
              have p1 : (j : Int) < (s.length : Int) := by omega
              obtain ⟨bl, off, rfl, hlt1, hc⟩ := (hs1.ext hb2).at' (by omega)
              obtain ⟨k2, n2, t2, ad2, cap2, c0, c1, c2, hg2⟩ := hc j hlt
              clear hc hs1
              have CK := Lib.hid (fun W (hW : Below wr.heap.size wr W) => IH.out s[j] (List.getElem_mem hlt) (.agg #[.int .i64 k2, .int .i64 n2, .slice ad2 t2 cap2]) W (HT1.out.ext (hb2.trans (hW.mono hb2.size))) (hg2.ext hW))
              have HST := Lib.hid (ET.eachErrL_step s j hlt)
              generalize ET.eachErr s[j] = kn at *
              go_wp2_with fail
              refine (CK.out _ (by repeat (first | with_reducible assumption | with_reducible exact Below.refl _ _ | with_reducible apply Below.drew | (with_reducible refine Below.alloc ?_ (by first | omega | (simp only [World.size_alloc, size_setCell, size_drew, size_drewN]; omega) | (dsimp only; omega) | (simp only [World.size_alloc, size_setCell, size_drew, size_drewN]; dsimp only; omega)) _) | (with_reducible refine Below.setCell ?_ (by first | omega | (simp only [World.size_alloc, size_setCell, size_drew, size_drewN]; omega) | (dsimp only; omega) | (simp only [World.size_alloc, size_setCell, size_drew, size_drewN]; dsimp only; omega)) _) | (with_reducible apply below_drewN)))).mono ?_
              rintro e w3 ⟨rfl, hb3⟩
              have hB3 : Below W0.heap.size W0 w3 := Below.trans (by repeat (first | with_reducible assumption | with_reducible exact Below.refl _ _ | with_reducible apply Below.drew | (with_reducible refine Below.alloc ?_ (by first | omega | (simp only [World.size_alloc, size_setCell, size_drew, size_drewN]; omega) | (dsimp only; omega) | (simp only [World.size_alloc, size_setCell, size_drew, size_drewN]; dsimp only; omega)) _) | (with_reducible refine Below.setCell ?_ (by first | omega | (simp only [World.size_alloc, size_setCell, size_drew, size_drewN]; omega) | (dsimp only; omega) | (simp only [World.size_alloc, size_setCell, size_drew, size_drewN]; dsimp only; omega)) _) | (with_reducible apply below_drewN))) (hb3.mono (by first | omega | (simp only [World.size_alloc, size_setCell, size_drew, size_drewN]; omega) | (dsimp only; omega) | (simp only [World.size_alloc, size_setCell, size_drew, size_drewN]; dsimp only; omega)))
              clear hb3
              by_cases he : kn = 0
              · have HX : Hid (ET.eachErrL (s.drop 0) = ET.eachErrL (s.drop (j + 1))) := by
                  have h1 := HST.out
                  rw [if_pos he] at h1
                  exact HE.out.trans h1
                rw [he, errV_zero]
                clear HST
                go_wp2_with fail
                exact ⟨⟨j + 1, by omega, by go_num, hB3, HX⟩, by simp [intOf]; omega⟩
              · have HX : Hid (ET.eachErrL (s.drop 0) = kn) := by
                  have h1 := HST.out
                  rw [if_neg he] at h1
                  exact HE.out.trans h1
                rw [errV_ne he]
                clear HST
                go_wp2_with fail
                go_ret
                exact ⟨by first | (rw [HX.out, errV_ne he]; rfl) | (show _ = Ending.returned (errV (ET.eachErrL (s.drop 0))); rw [HX.out, errV_ne he]; rfl), hB0.trans (hB3.mono hB0.size)⟩
            · have HF := HE.out
              rw [List.drop_eq_nil_of_le (by omega : s.length ≤ j)] at HF
              have HX : Hid (ET.eachErrL (s.drop 0) = 0) := HF
              have p1 : ¬ (j : Int) < (s.length : Int) := by omega
              clear HF
              go_wp2_with fail
              go_ret
              exact ⟨by first | (rw [HX.out]; rfl) | (show _ = Ending.returned (errV (ET.eachErrL (s.drop 0))); rw [HX.out]; rfl), hBr⟩
        · have hr : ET.eachErr (.mk (K : Int) n s) = 3 := by rw [HE1.out, if_pos h3]
          rw [hr]
          have q3 : (tk != (s.length : Int)) = true := by simpa using h3
          clear hr HE1 h1 h2
          have q4 : (K : Int) < 12 := by omega
          go_enter Tryd.func60, Tryd.ntmps60
          go_wp2_with fail
          go_quiet (fail)
          go_wp2_with fail
          go_ret
          exact ⟨rfl, by repeat (first | with_reducible assumption | with_reducible exact Below.refl _ _ | with_reducible apply Below.drew | (with_reducible refine Below.alloc ?_ (by first | omega | (simp only [World.size_alloc, size_setCell, size_drew, size_drewN]; omega) | (dsimp only; omega) | (simp only [World.size_alloc, size_setCell, size_drew, size_drewN]; dsimp only; omega)) _) | (with_reducible refine Below.setCell ?_ (by first | omega | (simp only [World.size_alloc, size_setCell, size_drew, size_drewN]; omega) | (dsimp only; omega) | (simp only [World.size_alloc, size_setCell, size_drew, size_drewN]; dsimp only; omega)) _) | (with_reducible apply below_drewN))⟩
set_option maxHeartbeats 1000000 in
theorem xcheck_any (g : ET) (v : Value) (w : World) (hT : TakesAt w) (hg : ExprAt w v g) : Calls Tryd.prog 33 #[v] w fun e w' => e = .returned (errV (ET.check g)) ∧ Below w.heap.size w w' := by
  obtain ⟨k, n, s, ad, cap, hmk, rfl, hk, hn, hl, hm, hs⟩ := hg.form
  have C1 := Lib.hid (fun W (h : Below w.heap.size w W) => xparts_any g 0 (.agg #[.int .i64 k, .int .i64 n, .slice ad s.length cap]) W (by omega) (hg.ext h))
  have C2 := Lib.hid (fun W (h : Below w.heap.size w W) => xeach_any g (.agg #[.int .i64 k, .int .i64 n, .slice ad s.length cap]) W (hT.ext h) (hg.ext h))
  have HR : Hid (ET.check g = if 30 < ET.parts g 0 then 4 else ET.eachErr g) := rfl
  have hpl := ET.parts_le g 0 (by omega)
  clear hg hmk hs hk hn hl hm hT
  generalize ET.check g = ce at *
  generalize ET.parts g 0 = pg at *
  generalize ET.eachErr g = eg at *
  by_cases h : 30 < pg
  · have h' : (30 : Int) < (pg : Int) := by omega
    have HX : Hid (ce = 4) := by have := HR.out; rw [if_pos h] at this; exact this
    clear h HR
    go_enter Tryd.func33, Tryd.ntmps33
    go_wp2_with fail
    refine (C1.out _ (by repeat (first | with_reducible assumption | with_reducible exact Below.refl _ _ | with_reducible apply Below.drew | (with_reducible refine Below.alloc ?_ (by first | omega | (simp only [World.size_alloc, size_setCell, size_drew, size_drewN]; omega) | (dsimp only; omega) | (simp only [World.size_alloc, size_setCell, size_drew, size_drewN]; dsimp only; omega)) _) | (with_reducible refine Below.setCell ?_ (by first | omega | (simp only [World.size_alloc, size_setCell, size_drew, size_drewN]; omega) | (dsimp only; omega) | (simp only [World.size_alloc, size_setCell, size_drew, size_drewN]; dsimp only; omega)) _) | (with_reducible apply below_drewN)))).mono ?_
    rintro e w1 ⟨rfl, hb1⟩
    have hB1 : Below w.heap.size w w1 := Below.trans (by repeat (first | with_reducible assumption | with_reducible exact Below.refl _ _ | with_reducible apply Below.drew | (with_reducible refine Below.alloc ?_ (by first | omega | (simp only [World.size_alloc, size_setCell, size_drew, size_drewN]; omega) | (dsimp only; omega) | (simp only [World.size_alloc, size_setCell, size_drew, size_drewN]; dsimp only; omega)) _) | (with_reducible refine Below.setCell ?_ (by first | omega | (simp only [World.size_alloc, size_setCell, size_drew, size_drewN]; omega) | (dsimp only; omega) | (simp only [World.size_alloc, size_setCell, size_drew, size_drewN]; dsimp only; omega)) _) | (with_reducible apply below_drewN))) (hb1.mono (by first | omega | (simp only [World.size_alloc, size_setCell, size_drew, size_drewN]; omega) | (dsimp only; omega) | (simp only [World.size_alloc, size_setCell, size_drew, size_drewN]; dsimp only; omega)))
    obtain ⟨hc1, hf1, hz1⟩ := bcell hb1
    try simp only [World.size_alloc, size_setCell, size_drew, size_drewN] at hz1
    clear hb1
    have y1_0 : w.heap.size < w1.heap.size := by omega
    go_wp2_with fail
    go_ret
    exact ⟨by rw [HX.out]; rfl, by repeat (first | with_reducible assumption | with_reducible exact Below.refl _ _ | with_reducible apply Below.drew | (with_reducible refine Below.alloc ?_ (by first | omega | (simp only [World.size_alloc, size_setCell, size_drew, size_drewN]; omega) | (dsimp only; omega) | (simp only [World.size_alloc, size_setCell, size_drew, size_drewN]; dsimp only; omega)) _) | (with_reducible refine Below.setCell ?_ (by first | omega | (simp only [World.size_alloc, size_setCell, size_drew, size_drewN]; omega) | (dsimp only; omega) | (simp only [World.size_alloc, size_setCell, size_drew, size_drewN]; dsimp only; omega)) _) | (with_reducible apply below_drewN))⟩
  · have h' : ¬ (30 : Int) < (pg : Int) := by omega
    have HX : Hid (ce = eg) := by have := HR.out; rw [if_neg h] at this; exact this
    clear h HR
    go_enter Tryd.func33, Tryd.ntmps33
    go_wp2_with fail
    refine (C1.out _ (by repeat (first | with_reducible assumption | with_reducible exact Below.refl _ _ | with_reducible apply Below.drew | (with_reducible refine Below.alloc ?_ (by first | omega | (simp only [World.size_alloc, size_setCell, size_drew, size_drewN]; omega) | (dsimp only; omega) | (simp only [World.size_alloc, size_setCell, size_drew, size_drewN]; dsimp only; omega)) _) | (with_reducible refine Below.setCell ?_ (by first | omega | (simp only [World.size_alloc, size_setCell, size_drew, size_drewN]; omega) | (dsimp only; omega) | (simp only [World.size_alloc, size_setCell, size_drew, size_drewN]; dsimp only; omega)) _) | (with_reducible apply below_drewN)))).mono ?_
    rintro e w1 ⟨rfl, hb1⟩
    have hB1 : Below w.heap.size w w1 := Below.trans (by repeat (first | with_reducible assumption | with_reducible exact Below.refl _ _ | with_reducible apply Below.drew | (with_reducible refine Below.alloc ?_ (by first | omega | (simp only [World.size_alloc, size_setCell, size_drew, size_drewN]; omega) | (dsimp only; omega) | (simp only [World.size_alloc, size_setCell, size_drew, size_drewN]; dsimp only; omega)) _) | (with_reducible refine Below.setCell ?_ (by first | omega | (simp only [World.size_alloc, size_setCell, size_drew, size_drewN]; omega) | (dsimp only; omega) | (simp only [World.size_alloc, size_setCell, size_drew, size_drewN]; dsimp only; omega)) _) | (with_reducible apply below_drewN))) (hb1.mono (by first | omega | (simp only [World.size_alloc, size_setCell, size_drew, size_drewN]; omega) | (dsimp only; omega) | (simp only [World.size_alloc, size_setCell, size_drew, size_drewN]; dsimp only; omega)))
    obtain ⟨hc1, hf1, hz1⟩ := bcell hb1
    try simp only [World.size_alloc, size_setCell, size_drew, size_drewN] at hz1
    clear hb1
    have y1_0 : w.heap.size < w1.heap.size := by omega
    go_wp2_with fail
    refine (C2.out _ (by repeat (first | with_reducible assumption | with_reducible exact Below.refl _ _ | with_reducible apply Below.drew | (with_reducible refine Below.alloc ?_ (by first | omega | (simp only [World.size_alloc, size_setCell, size_drew, size_drewN]; omega) | (dsimp only; omega) | (simp only [World.size_alloc, size_setCell, size_drew, size_drewN]; dsimp only; omega)) _) | (with_reducible refine Below.setCell ?_ (by first | omega | (simp only [World.size_alloc, size_setCell, size_drew, size_drewN]; omega) | (dsimp only; omega) | (simp only [World.size_alloc, size_setCell, size_drew, size_drewN]; dsimp only; omega)) _) | (with_reducible apply below_drewN)))).mono ?_
    rintro e w2 ⟨rfl, hb2⟩
    have hB2 : Below w.heap.size w w2 := Below.trans (by repeat (first | with_reducible assumption | with_reducible exact Below.refl _ _ | with_reducible apply Below.drew | (with_reducible refine Below.alloc ?_ (by first | omega | (simp only [World.size_alloc, size_setCell, size_drew, size_drewN]; omega) | (dsimp only; omega) | (simp only [World.size_alloc, size_setCell, size_drew, size_drewN]; dsimp only; omega)) _) | (with_reducible refine Below.setCell ?_ (by first | omega | (simp only [World.size_alloc, size_setCell, size_drew, size_drewN]; omega) | (dsimp only; omega) | (simp only [World.size_alloc, size_setCell, size_drew, size_drewN]; dsimp only; omega)) _) | (with_reducible apply below_drewN))) (hb2.mono (by first | omega | (simp only [World.size_alloc, size_setCell, size_drew, size_drewN]; omega) | (dsimp only; omega) | (simp only [World.size_alloc, size_setCell, size_drew, size_drewN]; dsimp only; omega)))
    obtain ⟨hc2, hf2, hz2⟩ := bcell hb2
    try simp only [World.size_alloc, size_setCell, size_drew, size_drewN] at hz2
    clear hb2
    have y2_0 : w.heap.size < w2.heap.size := by omega
    go_wp2_with fail
    go_ret
    exact ⟨by rw [HX.out]; rfl, by repeat (first | with_reducible assumption | with_reducible exact Below.refl _ _ | with_reducible apply Below.drew | (with_reducible refine Below.alloc ?_ (by first | omega | (simp only [World.size_alloc, size_setCell, size_drew, size_drewN]; omega) | (dsimp only; omega) | (simp only [World.size_alloc, size_setCell, size_drew, size_drewN]; dsimp only; omega)) _) | (with_reducible refine Below.setCell ?_ (by first | omega | (simp only [World.size_alloc, size_setCell, size_drew, size_drewN]; omega) | (dsimp only; omega) | (simp only [World.size_alloc, size_setCell, size_drew, size_drewN]; dsimp only; omega)) _) | (with_reducible apply below_drewN))⟩
end Go.Proofs.YtcecpggkeaohnaaDoor
