/- The walk through the document's walk to a least tape. -/
import Derived.Test.YtibmnifenfingaaGreatDoorSH1
namespace Go.Proofs.YtibmnifenfingaaGreatDoor
set_option maxRecDepth 100000
open Go.RowKit
set_option linter.unusedSimpArgs false
set_option linter.unusedVariables false
theorem IntsAt.anyS {w : World} {v : Value} {l : List Int} (h : IntsAt w v l) : IntsS w (fun b => 0 ≤ b) v l := by
  obtain ⟨h0, ⟨rfl, rfl⟩ | ⟨a, cap, rfl, h2, h3, h4⟩⟩ := h
  · exact ⟨h0, none, 0, rfl, by simp, by unfold maxLen; omega, by simp, by simp⟩
  · refine ⟨h0, some a, cap, rfl, h2, h3, fun e => (by cases e), fun hp => ?_⟩
    obtain ⟨b, off, rfl, hc⟩ := ints_at h4 hp
    exact ⟨b, off, rfl, World.block_lt_of_cell? w _ (hc 0 hp), Nat.zero_le _, hc⟩
set_option maxHeartbeats 4000000 in
theorem rwalkof_lo (lo : Nat) (g : GT) (x : ET) (t : List Int) (hp : (playR g t).2 = 0) (hx : ET.check x = 0) (hb : badR g x t = true) (gv xv tv : Value) (w : World) (hlo : lo ≤ w.heap.size) (hg : GenAt w gv g) (hxv : ExprAt w xv x) (ht0 : IntsS w (fun b => lo ≤ b) tv t) :
    Calls Tryz.prog 22 #[gv, xv, tv] w fun e w' => (∃ mv, e = .returned (.tuple #[mv, .int .i64 (walkR g x t).2]) ∧ IntsS w' (fun b => lo ≤ b) mv (walkR g x t).1) ∧ Below w.heap.size w w' := by
  have HS0 := Lib.hid ht0
  have ht := ht0.at
  clear ht0
  have HG := Lib.hid hg
  have HX := Lib.hid hxv
  have HP := Lib.hid hp
  have HXC := Lib.hid hx
  have hh := hgt_le hp
  obtain ⟨gk, ga, gb, gn, gad, gcap, rfl⟩ := hg.shape
  obtain ⟨xk, xn, xs, xad, xcap, rfl⟩ := hxv.shape
  obtain ⟨tad, tcap, rfl, _⟩ := ht.form
  clear hg hxv ht hp hx hb
  go_enter Tryz.func22, Tryz.ntmps22
  go_wp2_with fail
  generalize hW : (w.alloc (.cells #[.int .i64 gk, .int .i64 ga, .int .i64 gb, .slice gad gn gcap] 24)).alloc (.cells #[.int .i64 xk, .int .i64 xn, .slice xad xs xcap] 27) = w4
  have hB4 : Below w.heap.size w w4 := by rw [← hW]; repeat (first | with_reducible assumption | with_reducible exact Below.refl _ _ | with_reducible apply Below.drew | (with_reducible refine Below.alloc ?_ (by first | omega | (simp only [zA, zS, zD, zN]; omega) | (dsimp only; omega) | (simp only [zA, zS, zD, zN]; dsimp only; omega)) _) | (with_reducible refine Below.setCell ?_ (by first | omega | (simp only [zA, zS, zD, zN]; omega) | (dsimp only; omega) | (simp only [zA, zS, zD, zN]; dsimp only; omega)) _) | (with_reducible apply below_drewN))
  have x0 : Blk w4 w.heap.size #[.int .i64 gk, .int .i64 ga, .int .i64 gb, .slice gad gn gcap] 24 := by rw [← hW]; exact (Blk.new w #[.int .i64 gk, .int .i64 ga, .int .i64 gb, .slice gad gn gcap] 24).alloc _
  have x1 : Blk w4 (w.heap.size + 1) #[.int .i64 xk, .int .i64 xn, .slice xad xs xcap] 27 := by rw [← hW]; exact (show Blk ((w.alloc (.cells #[.int .i64 gk, .int .i64 ga, .int .i64 gb, .slice gad gn gcap] 24)).alloc (.cells #[.int .i64 xk, .int .i64 xn, .slice xad xs xcap] 27)) (w.heap.size + 1) _ _ by simpa using Blk.new (w.alloc (.cells #[.int .i64 gk, .int .i64 ga, .int .i64 gb, .slice gad gn gcap] 24)) #[.int .i64 xk, .int .i64 xn, .slice xad xs xcap] 27)
  have HI : Hid (WalkI g x t lo w4 t 0 (.slice tad t.length tcap) w4) := ⟨Below.refl _ _, HS0.out.keepB hB4, HP.out, by simp, by omega⟩
  clear hW HP HS0
  go_loopg [2, 8] (hgt t) (fun k tv' st wr => ∃ m n, st = .int .i64 (n : Nat) ∧ k = hgt m ∧ WalkI g x t lo w4 m n tv' wr)
  case atStart => exact ⟨t, 0, rfl, rfl, HI.out⟩
  case round =>
    obtain ⟨m, n, rfl, rfl, hI⟩ := hrel
    obtain ⟨wo, rfl⟩ : ∃ wo, wo = wr := ⟨_, rfl⟩
    have HI2 := Lib.hid hI
    have hbr := hI.below
    have hzr := hbr.size
    have hle := hI.le
    have hBr := hB4.trans (hbr.mono hB4.size)
    have y0 := x0.ext hbr
    have y1 := x1.ext hbr
    have g0 := y0.cell 0
    have g1 := y0.cell 1
    have g2 := y0.cell 2
    have g3 := y0.cell 3
    simp only [List.getElem?_toArray, List.getElem?_cons_succ, List.getElem?_cons_zero] at g0 g1 g2 g3
    clear hI HI
    obtain ⟨mad, mcap, rfl⟩ : ∃ ad c, _ = Value.slice ad m.length c := by obtain ⟨_, ad, c, e, _⟩ := HI2.out.own; exact ⟨ad, c, e⟩
    go_wp2_with fail
    refine (rless_any g m HI2.out.play _ _ _ (HG.out.ext hBr) HI2.out.at').mono ?_
    rintro _ w5 ⟨⟨l, rfl, hl⟩, hb5⟩
    have hB5 := hBr.trans (hb5.mono hBr.size)
    have z0 := y0.ext hb5
    have z1 := y1.ext hb5
    have HB5 := Lib.hid hb5
    have HL := Lib.hid hl
    obtain ⟨lad, lcap, rfl, hl1, hl2, hl3, hl4⟩ := hl
    obtain ⟨ln, hln⟩ : ∃ n, n = (lessR g m).length := ⟨_, rfl⟩
    have hll := lessR_len g m
    have hfm := (played_fit HI2.out.play).2.2
    rw [← hln] at hl1 hll
    rw [← hln]
    have HLN := Lib.hid hln
    have HC := Lib.hid hl4
    unfold maxLen at hl2
    clear g0 g1 g2 g3 hb5 hln hl3 hl4 y0 y1
    go_wp2_with fail
    go_loopw [10] (fun i ws => ∃ k : Nat, k ≤ ln ∧ i = .int .i64 k ∧ Below w5.heap.size w5 ws ∧ Hid (∀ j (hj : j < (lessR g m).length), j < k → badR g x (lessR g m)[j] = false)) (fun i _ => ln - (intOf i).toNat)
    case atStart => exact ⟨0, by omega, rfl, Below.refl _ _, by intro j _ h; omega⟩
    case round =>
      obtain ⟨k, hk, rfl, hbs, HN⟩ := hrel
      have hzs := hbs.size
      have hz5 := hB5.size
      have hBs : Below w.heap.size w wr := hB5.trans (hbs.mono hz5)
      by_cases hlt : k < ln
      · have q0 : (0 : Int) ≤ (k : Int) := by omega
        have q1 : (k : Int) < (ln : Int) := by omega
        have hkR : k < (lessR g m).length := by rw [← HLN.out]; exact hlt
        obtain ⟨ubl, uoff, rfl, hub1, hub2, huu⟩ := HC.out (by rw [← HLN.out]; omega)
        obtain ⟨mv, hmv, hmR⟩ := huu k hkR
        have hmem := lessR_mem (played_fit HI2.out.play).1 (List.getElem_mem hkR)
        have HM := Lib.hid hmem.2
        have HMV := Lib.hid (hmR.keepB hbs)
        obtain ⟨ma, mn, mc, rfl⟩ : ∃ a n c, mv = .slice a n c := by obtain ⟨_, a, c, e, _⟩ := hmR; exact ⟨_, _, _, e⟩
        have hmv' := (hbs.cell (p := ⟨ubl, uoff + k, none⟩) hub1).trans hmv
        have xr0 := z0.ext hbs
        have xr1 := z1.ext hbs
        have g0 := xr0.cell 0
        have g1 := xr0.cell 1
        have g2 := xr0.cell 2
        have g3 := xr0.cell 3
        simp only [List.getElem?_toArray, List.getElem?_cons_succ, List.getElem?_cons_zero] at g0 g1 g2 g3
        have f0 := xr1.cell 0
        have f1 := xr1.cell 1
        have f2 := xr1.cell 2
        simp only [List.getElem?_toArray, List.getElem?_cons_succ, List.getElem?_cons_zero] at f0 f1 f2
        have hxl0 := xr0.lt
        have hxl1 := xr1.lt
        clear huu hmv hmR hmem
        go_wp2_with fail
        refine region_mov (S := fun w' => w'.cell? ⟨w.heap.size, 0, none⟩ = some (.int .i64 gk) ∧ w'.cell? ⟨w.heap.size, 1, none⟩ = some (.int .i64 ga) ∧ w'.cell? ⟨w.heap.size, 2, none⟩ = some (.int .i64 gb) ∧ w'.cell? ⟨w.heap.size, 3, none⟩ = some (.slice gad gn gcap) ∧ w'.cell? ⟨w.heap.size + 1, 0, none⟩ = some (.int .i64 xk) ∧ w'.cell? ⟨w.heap.size + 1, 1, none⟩ = some (.int .i64 xn) ∧ w'.cell? ⟨w.heap.size + 1, 2, none⟩ = some (.slice xad xs xcap) ∧ w'.cell? ⟨ubl, uoff + k, none⟩ = some (.slice ma mn mc)) (n := 13) (ms := [(true, 0), (true, 1), (true, 2), (true, 3), (true, 4), (true, 5), (true, 6), (true, 7), (true, 8), (true, 9), (true, 10), (false, 11), (false, 12), (false, 13)])
          (hm := by kernel_rfl) (hB := by kernel_rfl) (hQ := fun c a d v w h => by cases d <;> exact h) ?_
        have HS0 : Hid ((fun w' => w'.cell? ⟨w.heap.size, 0, none⟩ = some (.int .i64 gk) ∧ w'.cell? ⟨w.heap.size, 1, none⟩ = some (.int .i64 ga) ∧ w'.cell? ⟨w.heap.size, 2, none⟩ = some (.int .i64 gb) ∧ w'.cell? ⟨w.heap.size, 3, none⟩ = some (.slice gad gn gcap) ∧ w'.cell? ⟨w.heap.size + 1, 0, none⟩ = some (.int .i64 xk) ∧ w'.cell? ⟨w.heap.size + 1, 1, none⟩ = some (.int .i64 xn) ∧ w'.cell? ⟨w.heap.size + 1, 2, none⟩ = some (.slice xad xs xcap) ∧ w'.cell? ⟨ubl, uoff + k, none⟩ = some (.slice ma mn mc)) wr.drew) := ⟨g0, g1, g2, g3, f0, f1, f2, hmv'⟩
        iterate 11
          rw [mov_take]
          simp only [List.getElem?_toArray, List.getElem?_cons_succ, List.getElem?_cons_zero]
          refine ⟨?_, .inl ⟨by rfl, ?_⟩, HS0.out, ?_⟩
          rotate_left
          · rintro w' ⟨s0, s1, s2, s3, s4, s5, s6, s7⟩
            go_simp
            rfl
          simp only [Act.put, List.setIfInBounds_toArray, List.set_cons_zero, List.set_cons_succ]
        have hBd : Below w.heap.size w wr.drew := hBs.drew
        have hBd5 : Below w5.heap.size w5 wr.drew := hbs.drew
        have HMd : Hid (IntsAt wr.drew (.slice ma mn mc) (lessR g m)[k]) := HMV.out.at.ext (Below.drew (Below.refl _ _))
        have hlw := hBr.size
        have HMS : Hid (IntsS wr.drew (fun b => lo ≤ b) (.slice ma mn mc) (lessR g m)[k]) := (HMV.out.keepB (Below.drew (Below.refl _ _))).mono (fun b hb _ => Nat.le_trans (Nat.le_trans hlo hlw) hb)
        clear hlw
        have hzd : wr.drew.heap.size = wr.heap.size := rfl
        have l1 : w.heap.size < wr.drew.heap.size := by omega
        have l2 : ubl < wr.drew.heap.size := by omega
        have l3 : w5.heap.size ≤ wr.drew.heap.size := by omega
        have l4 : w.heap.size + 1 < wr.drew.heap.size := by omega
        clear g0 g1 g2 g3 f0 f1 f2 hmv' hzd hxl0 hxl1 xr0 xr1 HMV
        generalize wr.drew = Wd at *
        have HS : Hid (∀ W', Below Wd.heap.size Wd W' → (fun w' => w'.cell? ⟨w.heap.size, 0, none⟩ = some (.int .i64 gk) ∧ w'.cell? ⟨w.heap.size, 1, none⟩ = some (.int .i64 ga) ∧ w'.cell? ⟨w.heap.size, 2, none⟩ = some (.int .i64 gb) ∧ w'.cell? ⟨w.heap.size, 3, none⟩ = some (.slice gad gn gcap) ∧ w'.cell? ⟨w.heap.size + 1, 0, none⟩ = some (.int .i64 xk) ∧ w'.cell? ⟨w.heap.size + 1, 1, none⟩ = some (.int .i64 xn) ∧ w'.cell? ⟨w.heap.size + 1, 2, none⟩ = some (.slice xad xs xcap) ∧ w'.cell? ⟨ubl, uoff + k, none⟩ = some (.slice ma mn mc)) W') := fun W' h =>
          ⟨(h.cell (p := ⟨_, 0, none⟩) l1).trans HS0.out.1, (h.cell (p := ⟨_, 1, none⟩) l1).trans HS0.out.2.1, (h.cell (p := ⟨_, 2, none⟩) l1).trans HS0.out.2.2.1, (h.cell (p := ⟨_, 3, none⟩) l1).trans HS0.out.2.2.2.1, (h.cell (p := ⟨_, 0, none⟩) l4).trans HS0.out.2.2.2.2.1, (h.cell (p := ⟨_, 1, none⟩) l4).trans HS0.out.2.2.2.2.2.1, (h.cell (p := ⟨_, 2, none⟩) l4).trans HS0.out.2.2.2.2.2.2.1, (h.cell (p := ⟨ubl, _, none⟩) l2).trans HS0.out.2.2.2.2.2.2.2⟩
        rw [mov_step]
        simp only [List.getElem?_toArray, List.getElem?_cons_succ, List.getElem?_cons_zero]
        go_wp2_with fail
        refine (rbt_any g x _ HM.out HXC.out _ _ _ _ (HG.out.ext hBd) (HX.out.ext hBd) HMd.out).mono ?_
        rintro e w6 ⟨rfl, hb6⟩
        have HS6 := Lib.hid (HS.out w6 hb6)
        have hB6 := hBd.trans (hb6.mono hBd.size)
        have hB65 := hBd5.trans (hb6.mono l3)
        have HM6 := Lib.hid (HMS.out.keepB hb6)
        clear hb6 HS HS0 HMd HMS
        go_wp2_with fail
        refine And.intro (fun _ => HS6.out) ?_
        rw [mov_step]
        simp only [List.getElem?_toArray, List.getElem?_cons_succ, List.getElem?_cons_zero]
        go_wp2_with fail
        refine And.intro (fun _ => HS6.out) ?_
        rw [mov_step]
        simp only [List.getElem?_toArray, List.getElem?_cons_succ, List.getElem?_cons_zero]
        go_wp2_with fail
        refine And.intro (fun h => absurd h (by omega)) ?_
        rw [wpMov]
        obtain ⟨b6, hb6⟩ : ∃ b, b = badR g x (lessR g m)[k] := ⟨_, rfl⟩
        rw [← hb6]
        cases b6 with
        | false =>
          have HNK : Hid (badR g x (lessR g m)[k] = false) := hb6.symm
          clear hb6
          go_wp2_with fail
          have HNN : Hid (∀ j (hj : j < (lessR g m).length), j < k + 1 → badR g x (lessR g m)[j] = false) := by
            intro j hj h
            by_cases hjk : j < k
            · exact HN.out j hj hjk
            · have e : j = k := by omega
              subst e
              exact HNK.out
          exact ⟨⟨k + 1, by omega, by go_num, hB65, HNN⟩, by simp [intOf]; omega⟩
        | true =>
          have HNX : Hid (nextR g x m = some (lessR g m)[k]) := find_at _ k hkR HN.out hb6.symm
          have HNT := Lib.hid (HI2.out.next HNX.out (HB5.out.trans (hB65.mono HB5.out.size)) HM6.out)
          have s7 := HS6.out.2.2.2.2.2.2.2
          clear hb6
          go_wp2_with fail
          go_roundg (hgt (lessR g m)[k])
          case measure => exact HNT.out.2
          case rel => exact ⟨_, n + 1, by go_num, rfl, HNT.out.1⟩
      · have q1 : ¬ (k : Int) < (ln : Int) := by omega
        have q2 : decide ((k : Int) < (ln : Int)) = false := decide_eq_false q1
        have q3 : k = ln := by omega
        have HNO : Hid (nextR g x m = none) := find_no (fun j hj => HN.out j hj (by rw [← HLN.out] at hj; omega))
        subst q3
        have HX2 : Hid (walkR g x t = (m, n)) := by
          have h3 := HI2.out.eq
          rw [walkR_stop HNO.out] at h3
          exact h3
        have HA := Lib.hid (HI2.out.own.keepB (HB5.out.trans (hbs.mono HB5.out.size)))
        clear HNO
        go_wp2_with fail
        go_quiet (fail)
        go_wp2_with fail
        go_ret2
        rw [HX2.out]
        exact ⟨⟨_, rfl, HA.out.keepB (below_drewN (Below.refl _ _))⟩, below_drewN hBs⟩
theorem rwalkof_any (g : GT) (x : ET) (t : List Int) (hp : (playR g t).2 = 0) (hx : ET.check x = 0) (hb : badR g x t = true) (gv xv tv : Value) (w : World) (hg : GenAt w gv g) (hxv : ExprAt w xv x) (ht : IntsAt w tv t) :
    Calls Tryz.prog 22 #[gv, xv, tv] w fun e w' => (∃ mv, e = .returned (.tuple #[mv, .int .i64 (walkR g x t).2]) ∧ IntsS w' (fun b => 0 ≤ b) mv (walkR g x t).1) ∧ Below w.heap.size w w' :=
  rwalkof_lo 0 g x t hp hx hb gv xv tv w (Nat.zero_le _) hg hxv ht.anyS
end Go.Proofs.YtibmnifenfingaaGreatDoor
