/- The walks through the document's answers on expressions: too many parts, what is wrong with one. -/
import Derived.Test.YtibmnifenfingaaGreatDoorPRefE
import Derived.Test.YtibmnifenfingaaGreatDoorEXA
import Derived.Deep.DeepCutAuto
import Derived.BigQuiet
namespace Go.Proofs.YtibmnifenfingaaGreatDoor
set_option maxRecDepth 100000
open Go.RowKit
set_option linter.unusedSimpArgs false
set_option linter.unusedVariables false
set_option maxHeartbeats 2000000 in
theorem rxlarge_any (g : ET) : ∀ (d : Nat) (v : Value) (w : World), d ≤ 6 → ExprAt w v g → Calls Tryz.prog 17 #[v, .int .i64 d] w fun e w' => e = .returned (.tuple #[.int .i64 (ET.big g d).1, .bool (ET.big g d).2]) ∧ Below w.heap.size w w' := by
  induction g using ET.ind with
  | h k n s ih =>
    intro d v w hd hg
    obtain ⟨k', n', s', ad, cap, hmk, rfl, hk, hn, hl, hm, hs⟩ := hg.form
    obtain ⟨rfl, rfl, rfl⟩ := ET.mk.inj hmk
    clear hg hmk
    have IH := Lib.hid ih
    clear ih
    by_cases h6 : 6 ≤ d
    · have hr : ET.big (.mk k n s) d = (1, true) := by simp [ET.big, h6]
      rw [hr]
      have z1 : (6 : Int) ≤ (d : Int) := by omega
      clear h6 hr
      go_enter Tryz.func17, Tryz.ntmps17
      go_wp2_with fail
      go_ret2
      exact ⟨rfl, by repeat (first | with_reducible assumption | with_reducible exact Below.refl _ _ | with_reducible apply Below.drew | (with_reducible refine Below.alloc ?_ (by first | omega | (simp only [zA, zS, zD, zN]; omega) | (dsimp only; omega) | (simp only [zA, zS, zD, zN]; dsimp only; omega)) _) | (with_reducible refine Below.setCell ?_ (by first | omega | (simp only [zA, zS, zD, zN]; omega) | (dsimp only; omega) | (simp only [zA, zS, zD, zN]; dsimp only; omega)) _) | (with_reducible apply below_drewN))⟩
    · have HP : Hid (ET.big (.mk k n s) d = ET.bigL (s.drop 0) d 1) := by show _ = _; simp [ET.big, h6]
      have z1 : ¬ (6 : Int) ≤ (d : Int) := by omega
      have hd6 : d < 6 := by omega
      clear h6
      go_enter Tryz.func17, Tryz.ntmps17
      go_wp2_with fail
      generalize hW0 : w.alloc (.cells #[.int .i64 k, .int .i64 n, .slice ad s.length cap] 27) = W0
      have hB0 : Below w.heap.size w W0 := by rw [← hW0]; repeat (first | with_reducible assumption | with_reducible exact Below.refl _ _ | with_reducible apply Below.drew | (with_reducible refine Below.alloc ?_ (by first | omega | (simp only [zA, zS, zD, zN]; omega) | (dsimp only; omega) | (simp only [zA, zS, zD, zN]; dsimp only; omega)) _) | (with_reducible refine Below.setCell ?_ (by first | omega | (simp only [zA, zS, zD, zN]; omega) | (dsimp only; omega) | (simp only [zA, zS, zD, zN]; dsimp only; omega)) _) | (with_reducible apply below_drewN))
      have X0 : Blk W0 w.heap.size #[.int .i64 k, .int .i64 n, .slice ad s.length cap] 27 := by rw [← hW0]; exact Blk.new _ _ _
      have hs1 := hs.ext hB0
      clear hs hW0
      go_loopw [6, 7] (fun q i wr => ∃ (j r : Nat), j ≤ s.length ∧ q = .int .i64 r ∧ i = .int .i64 j ∧ r ≤ 30 ∧ Below W0.heap.size W0 wr ∧ Hid (ET.bigL (s.drop 0) d 1 = ET.bigL (s.drop j) d r)) (fun _ i _ => s.length - (intOf i).toNat)
      case atStart => exact ⟨0, 1, by omega, rfl, rfl, by omega, Below.refl _ _, rfl⟩
      case round =>
        obtain ⟨j, r, hj, rfl, rfl, hr30, hb2, HE⟩ := hrel
        have hzr := hb2.size
        have hz0 := hB0.size
        have hBr : Below w.heap.size w wr := hB0.trans (hb2.mono hB0.size)
        have xr := X0.ext hb2
        have f0 := xr.cell 0
        have f1 := xr.cell 1
        have f2 := xr.cell 2
        simp only [List.getElem?_toArray, List.getElem?_cons_succ, List.getElem?_cons_zero] at f0 f1 f2
        by_cases hlt : j < s.length
        · have p0 : (0 : Int) ≤ (j : Int) := by omega
          have p1 : (j : Int) < (s.length : Int) := by omega
          obtain ⟨bl, off, rfl, hlt1, hc⟩ := (hs1.ext hb2).at' (by omega)
          obtain ⟨k2, n2, t2, ad2, cap2, c0, c1, c2, hg2⟩ := hc j hlt
          clear hc hs1
          have CK := Lib.hid (fun W hW => IH.out s[j] (List.getElem_mem hlt) (d + 1) (.agg #[.int .i64 k2, .int .i64 n2, .slice ad2 t2 cap2]) W (by omega) (hg2.ext hW))
          have HST := Lib.hid (ET.bigL_step s d j hlt r)
          have hkl := ET.big_le s[j] (d + 1) (by omega)
          generalize ET.big s[j] (d + 1) = kp at *
          obtain ⟨kn, kb⟩ := kp
          dsimp only at *
          have ec : ((d + 1 : Nat) : Int) = (d : Int) + 1 := by omega
          rw [ec] at CK
          have hkl2 : kn ≤ 300 := by omega
          go_wp2_with fail
          refine (CK.out _ (by repeat (first | with_reducible assumption | with_reducible exact Below.refl _ _ | with_reducible apply Below.drew | (with_reducible refine Below.alloc ?_ (by first | omega | (simp only [zA, zS, zD, zN]; omega) | (dsimp only; omega) | (simp only [zA, zS, zD, zN]; dsimp only; omega)) _) | (with_reducible refine Below.setCell ?_ (by first | omega | (simp only [zA, zS, zD, zN]; omega) | (dsimp only; omega) | (simp only [zA, zS, zD, zN]; dsimp only; omega)) _) | (with_reducible apply below_drewN)))).mono ?_
          rintro e w3 ⟨rfl, hb3⟩
          have hB3 : Below W0.heap.size W0 w3 := Below.trans (by repeat (first | with_reducible assumption | with_reducible exact Below.refl _ _ | with_reducible apply Below.drew | (with_reducible refine Below.alloc ?_ (by first | omega | (simp only [zA, zS, zD, zN]; omega) | (dsimp only; omega) | (simp only [zA, zS, zD, zN]; dsimp only; omega)) _) | (with_reducible refine Below.setCell ?_ (by first | omega | (simp only [zA, zS, zD, zN]; omega) | (dsimp only; omega) | (simp only [zA, zS, zD, zN]; dsimp only; omega)) _) | (with_reducible apply below_drewN))) (hb3.mono (by first | omega | (simp only [zA, zS, zD, zN]; omega) | (dsimp only; omega) | (simp only [zA, zS, zD, zN]; dsimp only; omega)))
          have hB4 : Below w.heap.size w w3 := hB0.trans (hB3.mono hB0.size)
          clear hb3
          by_cases h30 : 30 < r + kn
          · have h30' : (30 : Int) < (r : Int) + (kn : Int) := by omega
            have HX : Hid (ET.big (.mk k n s) d = (r + kn, true)) := by
              have h1 := HST.out
              rw [if_pos (.inr h30)] at h1
              exact HP.out.trans (HE.out.trans h1)
            clear h30
            cases kb with
            | true =>
              go_wp2_with fail
              go_ret2
              exact ⟨by rw [HX.out]; simp, hB4⟩
            | false =>
              go_wp2_with fail
              go_ret2
              exact ⟨by rw [HX.out]; simp, hB4⟩
          · have h30' : ¬ (30 : Int) < (r : Int) + (kn : Int) := by omega
            have h31 : r + kn ≤ 30 := by omega
            cases kb with
            | true =>
              have HX : Hid (ET.big (.mk k n s) d = (r + kn, true)) := by
                have h1 := HST.out
                rw [if_pos (.inl rfl)] at h1
                exact HP.out.trans (HE.out.trans h1)
              clear h30
              go_wp2_with fail
              go_ret2
              exact ⟨by rw [HX.out]; simp, hB4⟩
            | false =>
              have HX : Hid (ET.bigL (s.drop 0) d 1 = ET.bigL (s.drop (j + 1)) d (r + kn)) := by
                have h1 := HST.out
                rw [if_neg (by simp [h30])] at h1
                exact HE.out.trans h1
              clear h30
              go_wp2_with fail
              exact ⟨⟨j + 1, r + kn, by omega, by go_num, by go_num, h31, hB3, HX⟩, by simp [intOf]; omega⟩
        · have HF := HE.out
          rw [List.drop_eq_nil_of_le (by omega : s.length ≤ j)] at HF
          have hd3 : decide (30 < r) = false := decide_eq_false (by omega)
          have HX : Hid (ET.big (.mk k n s) d = (r, false)) := by
            have := HP.out.trans HF
            rw [ET.bigL_nil, hd3] at this
            exact this
          have p1 : ¬ (j : Int) < (s.length : Int) := by omega
          have p3 : ¬ (30 : Int) < (r : Int) := by omega
          clear HF hd3
          go_wp2_with fail
          go_ret2
          exact ⟨by rw [HX.out]; rfl, hBr⟩
/-- How many lie in a kind; below 0: it is none. -/
def subsR (k : Int) : Int := if k < 1 ∨ 11 < k then -1 else if k ≤ 4 then 0 else if k = 9 then 1 else 2
theorem rsubs_any (k : Int) (w : World) : Calls Tryz.prog 38 #[.int .i64 k] w fun e w' => e = .returned (.int .i64 (subsR k)) ∧ w = w' := by
  by_cases h1 : k < 1
  · have hr : subsR k = -1 := by simp [subsR, h1]
    rw [hr]; clear hr
    go_enter Tryz.func38, Tryz.ntmps38
    go_wp2_with fail
    go_ret
    exact ⟨rfl, rfl⟩
  by_cases h2 : 11 < k
  · have hr : subsR k = -1 := by simp [subsR, h2]
    rw [hr]; clear hr
    go_enter Tryz.func38, Tryz.ntmps38
    go_wp2_with fail
    go_ret
    exact ⟨rfl, rfl⟩
  by_cases h3 : k ≤ 4
  · have hr : subsR k = 0 := by simp [subsR, h1, h2, h3]
    rw [hr]; clear hr
    go_enter Tryz.func38, Tryz.ntmps38
    go_wp2_with fail
    go_ret
    exact ⟨rfl, rfl⟩
  by_cases h4 : k = 9
  · subst h4
    have hr : subsR 9 = 1 := by simp [subsR]
    rw [hr]; clear hr
    go_enter Tryz.func38, Tryz.ntmps38
    go_wp2_with fail
    go_ret
    exact ⟨rfl, rfl⟩
  · have hr : subsR k = 2 := by simp [subsR, h1, h2, h3, h4]
    have h5 : (k == 9) = false := by simpa using h4
    rw [hr]; clear hr h4
    go_enter Tryz.func38, Tryz.ntmps38
    go_wp2_with fail
    go_ret
    exact ⟨rfl, rfl⟩
theorem each_subs (k n : Int) (s : List ET) : ET.eachErr (.mk k n s) = if subsR k ≠ s.length then 3 else ET.eachErrL s := by
  by_cases h1 : k < 1 ∨ 11 < k
  · have e : subsR k = -1 := if_pos h1
    rw [e, if_pos (show (-1 : Int) ≠ s.length by omega)]
    simp only [ET.eachErr]
    exact if_pos (by omega)
  · have e : subsR k = ET.takes k := by
      unfold subsR ET.takes
      rw [if_neg h1, if_neg (show ¬ k = 0 by omega)]
    rw [e]
    simp only [ET.eachErr]
    by_cases h3 : ET.takes k = s.length
    · rw [if_neg (show ¬ (k < 1 ∨ 11 < k ∨ ET.takes k ≠ s.length) from fun x => by omega), if_neg (show ¬ ET.takes k ≠ s.length from fun x => x h3)]
    · rw [if_pos (show k < 1 ∨ 11 < k ∨ ET.takes k ≠ s.length from .inr (.inr h3)), if_pos h3]
set_option maxHeartbeats 2000000 in
theorem rxparts_any (g : ET) : ∀ (v : Value) (w : World), ExprAt w v g → Calls Tryz.prog 18 #[v] w fun e w' => e = .returned (.bool (!(ET.eachErr g == 0))) ∧ Below w.heap.size w w' := by
  induction g using ET.ind with
  | h k n s ih =>
    intro v w hg
    obtain ⟨k', n', s', ad, cap, hmk, rfl, hk, hn, hl, hm, hs⟩ := hg.form
    obtain ⟨rfl, rfl, rfl⟩ := ET.mk.inj hmk
    clear hg hmk
    have IH := Lib.hid ih
    clear ih
    have CS := Lib.hid (rsubs_any k)
    have HQ := Lib.hid (each_subs k n s)
    generalize subsR k = sk at *
    by_cases hsk : sk = (s.length : Int)
    · have HR : Hid (ET.eachErr (.mk k n s) = ET.eachErrL (s.drop 0)) := by show _ = _; rw [HQ.out, if_neg (by simp [hsk])]; rfl
      have hq : (sk != (s.length : Int)) = false := by simp [hsk]
      clear HQ hsk
      go_enter Tryz.func18, Tryz.ntmps18
      go_wp2_with fail
      generalize hW0 : w.alloc (.cells #[.int .i64 k, .int .i64 n, .slice ad s.length cap] 27) = W0
      have hB0 : Below w.heap.size w W0 := by rw [← hW0]; repeat (first | with_reducible assumption | with_reducible exact Below.refl _ _ | with_reducible apply Below.drew | (with_reducible refine Below.alloc ?_ (by first | omega | (simp only [zA, zS, zD, zN]; omega) | (dsimp only; omega) | (simp only [zA, zS, zD, zN]; dsimp only; omega)) _) | (with_reducible refine Below.setCell ?_ (by first | omega | (simp only [zA, zS, zD, zN]; omega) | (dsimp only; omega) | (simp only [zA, zS, zD, zN]; dsimp only; omega)) _) | (with_reducible apply below_drewN))
      have X0 : Blk W0 w.heap.size #[.int .i64 k, .int .i64 n, .slice ad s.length cap] 27 := by rw [← hW0]; exact Blk.new _ _ _
      have hs1 := hs.ext hB0
      clear hs hW0
      have z0 := X0.cell 0
      have z1 := X0.cell 1
      have z2 := X0.cell 2
      simp only [List.getElem?_toArray, List.getElem?_cons_succ, List.getElem?_cons_zero] at z0 z1 z2
      go_quiet (first | (go_at_call 38; refine Calls.quiet_of_same ((CS.out _).mono fun _ _ h => ⟨h.1, h.2.symm⟩)))
      go_wp2_with fail
      clear z0 z1 z2
      go_loopw [3] (fun i wr => ∃ j : Nat, j ≤ s.length ∧ i = .int .i64 j ∧ Below W0.heap.size W0 wr ∧ Hid (ET.eachErrL (s.drop 0) = ET.eachErrL (s.drop j))) (fun i _ => s.length - (intOf i).toNat)
      case atStart => exact ⟨0, by omega, rfl, by repeat (first | with_reducible assumption | with_reducible exact Below.refl _ _ | with_reducible apply Below.drew | (with_reducible refine Below.alloc ?_ (by first | omega | (simp only [zA, zS, zD, zN]; omega) | (dsimp only; omega) | (simp only [zA, zS, zD, zN]; dsimp only; omega)) _) | (with_reducible refine Below.setCell ?_ (by first | omega | (simp only [zA, zS, zD, zN]; omega) | (dsimp only; omega) | (simp only [zA, zS, zD, zN]; dsimp only; omega)) _) | (with_reducible apply below_drewN)), rfl⟩
      case round =>
        obtain ⟨j, hj, rfl, hb2, HE⟩ := hrel
        have hzr := hb2.size
        have hz0 := hB0.size
        have hBr : Below w.heap.size w wr := hB0.trans (hb2.mono hB0.size)
        have xr := X0.ext hb2
        have f0 := xr.cell 0
        have f1 := xr.cell 1
        have f2 := xr.cell 2
        simp only [List.getElem?_toArray, List.getElem?_cons_succ, List.getElem?_cons_zero] at f0 f1 f2
        by_cases hlt : j < s.length
        · have p0 : (0 : Int) ≤ (j : Int) := by omega
          have p1 : (j : Int) < (s.length : Int) := by omega
          obtain ⟨bl, off, rfl, hlt1, hc⟩ := (hs1.ext hb2).at' (by omega)
          obtain ⟨k2, n2, t2, ad2, cap2, c0, c1, c2, hg2⟩ := hc j hlt
          clear hc hs1
          have CK := Lib.hid (fun W hW => IH.out s[j] (List.getElem_mem hlt) (.agg #[.int .i64 k2, .int .i64 n2, .slice ad2 t2 cap2]) W (hg2.ext hW))
          have ST := Lib.hid (ET.eachErrL_step s j hlt)
          generalize ET.eachErr s[j] = ej at *
          go_wp2_with fail
          refine (CK.out _ (by repeat (first | with_reducible assumption | with_reducible exact Below.refl _ _ | with_reducible apply Below.drew | (with_reducible refine Below.alloc ?_ (by first | omega | (simp only [zA, zS, zD, zN]; omega) | (dsimp only; omega) | (simp only [zA, zS, zD, zN]; dsimp only; omega)) _) | (with_reducible refine Below.setCell ?_ (by first | omega | (simp only [zA, zS, zD, zN]; omega) | (dsimp only; omega) | (simp only [zA, zS, zD, zN]; dsimp only; omega)) _) | (with_reducible apply below_drewN)))).mono ?_
          rintro e w3 ⟨rfl, hb3⟩
          have hB3 : Below W0.heap.size W0 w3 := Below.trans (by repeat (first | with_reducible assumption | with_reducible exact Below.refl _ _ | with_reducible apply Below.drew | (with_reducible refine Below.alloc ?_ (by first | omega | (simp only [zA, zS, zD, zN]; omega) | (dsimp only; omega) | (simp only [zA, zS, zD, zN]; dsimp only; omega)) _) | (with_reducible refine Below.setCell ?_ (by first | omega | (simp only [zA, zS, zD, zN]; omega) | (dsimp only; omega) | (simp only [zA, zS, zD, zN]; dsimp only; omega)) _) | (with_reducible apply below_drewN))) (hb3.mono (by first | omega | (simp only [zA, zS, zD, zN]; omega) | (dsimp only; omega) | (simp only [zA, zS, zD, zN]; dsimp only; omega)))
          have hBw : Below w.heap.size w w3 := hB0.trans (hB3.mono hB0.size)
          clear hb3
          by_cases he : ej = 0
          · have HE2 := ST.out
            rw [if_pos he] at HE2
            subst he
            go_wp2_with fail
            exact ⟨⟨j + 1, by omega, by go_num, hB3, HE.out.trans HE2⟩, by simp [intOf]; omega⟩
          · have HE2 := ST.out
            rw [if_neg he] at HE2
            have hq : (ej == 0) = false := by simpa using he
            have HX := Lib.hid (HR.out.trans (HE.out.trans HE2))
            clear HE2
            go_wp2_with fail
            go_ret
            exact ⟨by rw [HX.out, hq]; rfl, hBw⟩
        · have hj' : j = s.length := by omega
          have HE2 := HE.out
          rw [hj', List.drop_length] at HE2
          have HX := Lib.hid (HR.out.trans HE2)
          have p1 : ¬ (j : Int) < (s.length : Int) := by omega
          clear hj' HE2
          go_wp2_with fail
          go_ret
          exact ⟨by rw [HX.out]; rfl, hBr⟩
    · have HR : Hid (ET.eachErr (.mk k n s) = 3) := by show _ = _; rw [HQ.out, if_pos hsk]
      have hq : (sk != (s.length : Int)) = true := by simp [hsk]
      clear HQ hsk
      go_enter Tryz.func18, Tryz.ntmps18
      go_wp2_with fail
      generalize hW0 : w.alloc (.cells #[.int .i64 k, .int .i64 n, .slice ad s.length cap] 27) = W0
      have hB0 : Below w.heap.size w W0 := by rw [← hW0]; repeat (first | with_reducible assumption | with_reducible exact Below.refl _ _ | with_reducible apply Below.drew | (with_reducible refine Below.alloc ?_ (by first | omega | (simp only [zA, zS, zD, zN]; omega) | (dsimp only; omega) | (simp only [zA, zS, zD, zN]; dsimp only; omega)) _) | (with_reducible refine Below.setCell ?_ (by first | omega | (simp only [zA, zS, zD, zN]; omega) | (dsimp only; omega) | (simp only [zA, zS, zD, zN]; dsimp only; omega)) _) | (with_reducible apply below_drewN))
      have X0 : Blk W0 w.heap.size #[.int .i64 k, .int .i64 n, .slice ad s.length cap] 27 := by rw [← hW0]; exact Blk.new _ _ _
      clear hs hW0
      have z0 := X0.cell 0
      have z1 := X0.cell 1
      have z2 := X0.cell 2
      simp only [List.getElem?_toArray, List.getElem?_cons_succ, List.getElem?_cons_zero] at z0 z1 z2
      go_quiet (first | (go_at_call 38; refine Calls.quiet_of_same ((CS.out _).mono fun _ _ h => ⟨h.1, h.2.symm⟩)))
      go_wp2_with fail
      go_ret
      exact ⟨by rw [HR.out]; rfl, by repeat (first | with_reducible assumption | with_reducible exact Below.refl _ _ | with_reducible apply Below.drew | (with_reducible refine Below.alloc ?_ (by first | omega | (simp only [zA, zS, zD, zN]; omega) | (dsimp only; omega) | (simp only [zA, zS, zD, zN]; dsimp only; omega)) _) | (with_reducible refine Below.setCell ?_ (by first | omega | (simp only [zA, zS, zD, zN]; omega) | (dsimp only; omega) | (simp only [zA, zS, zD, zN]; dsimp only; omega)) _) | (with_reducible apply below_drewN))⟩
set_option maxHeartbeats 1000000 in
theorem rxfault_any (g : ET) (v : Value) (w : World) (hg : ExprAt w v g) : Calls Tryz.prog 7 #[v] w fun e w' => e = .returned (.int .i64 (ET.check g)) ∧ Below w.heap.size w w' := by
  obtain ⟨k, n, s, ad, cap, hmk, rfl, hk, hn, hl, hm, hs⟩ := hg.form
  have C1 : Hid (∀ W, Below w.heap.size w W → Calls Tryz.prog 17 #[.agg #[.int .i64 k, .int .i64 n, .slice ad s.length cap], .int .i64 0] W fun e w' => e = .returned (.tuple #[.int .i64 (ET.big g 0).1, .bool (ET.big g 0).2]) ∧ Below W.heap.size W w') := fun W h => rxlarge_any g 0 (.agg #[.int .i64 k, .int .i64 n, .slice ad s.length cap]) W (by omega) (hg.ext h)
  have C2 := Lib.hid (fun W (h : Below w.heap.size w W) => rxparts_any g (.agg #[.int .i64 k, .int .i64 n, .slice ad s.length cap]) W (hg.ext h))
  have HR := Lib.hid (ET.check_eq g)
  clear hg hmk hs hk hn hl hm
  generalize ET.check g = ce at *
  generalize ET.big g 0 = pg at *
  generalize ET.eachErr g = eg at *
  obtain ⟨pn, pb⟩ := pg
  dsimp only at C1
  cases pb
  · by_cases he : eg = 0
    · have hq : (eg == 0) = true := by simp [he]
      rw [hq] at C2
      have HX : Hid (ce = 0) := by show _ = _; rw [HR.out]; simp [he]
      clear he hq HR
      go_enter Tryz.func7, Tryz.ntmps7
      go_wp2_with fail
      refine (C1.out _ (by repeat (first | with_reducible assumption | with_reducible exact Below.refl _ _ | with_reducible apply Below.drew | (with_reducible refine Below.alloc ?_ (by first | omega | (simp only [zA, zS, zD, zN]; omega) | (dsimp only; omega) | (simp only [zA, zS, zD, zN]; dsimp only; omega)) _) | (with_reducible refine Below.setCell ?_ (by first | omega | (simp only [zA, zS, zD, zN]; omega) | (dsimp only; omega) | (simp only [zA, zS, zD, zN]; dsimp only; omega)) _) | (with_reducible apply below_drewN)))).mono ?_
      rintro e w1 ⟨rfl, hb1⟩
      have hB1 : Below w.heap.size w w1 := Below.trans (by repeat (first | with_reducible assumption | with_reducible exact Below.refl _ _ | with_reducible apply Below.drew | (with_reducible refine Below.alloc ?_ (by first | omega | (simp only [zA, zS, zD, zN]; omega) | (dsimp only; omega) | (simp only [zA, zS, zD, zN]; dsimp only; omega)) _) | (with_reducible refine Below.setCell ?_ (by first | omega | (simp only [zA, zS, zD, zN]; omega) | (dsimp only; omega) | (simp only [zA, zS, zD, zN]; dsimp only; omega)) _) | (with_reducible apply below_drewN))) (hb1.mono (by first | omega | (simp only [zA, zS, zD, zN]; omega) | (dsimp only; omega) | (simp only [zA, zS, zD, zN]; dsimp only; omega)))
      obtain ⟨hc1, hf1, hz1⟩ := bcell hb1
      try simp only [zA, zS, zD, zN] at hz1
      clear hb1
      have y1_0 : w.heap.size < w1.heap.size := by omega
      go_wp2_with fail
      refine (C2.out _ (by repeat (first | with_reducible assumption | with_reducible exact Below.refl _ _ | with_reducible apply Below.drew | (with_reducible refine Below.alloc ?_ (by first | omega | (simp only [zA, zS, zD, zN]; omega) | (dsimp only; omega) | (simp only [zA, zS, zD, zN]; dsimp only; omega)) _) | (with_reducible refine Below.setCell ?_ (by first | omega | (simp only [zA, zS, zD, zN]; omega) | (dsimp only; omega) | (simp only [zA, zS, zD, zN]; dsimp only; omega)) _) | (with_reducible apply below_drewN)))).mono ?_
      rintro e w2 ⟨rfl, hb2⟩
      have hB2 : Below w.heap.size w w2 := Below.trans (by repeat (first | with_reducible assumption | with_reducible exact Below.refl _ _ | with_reducible apply Below.drew | (with_reducible refine Below.alloc ?_ (by first | omega | (simp only [zA, zS, zD, zN]; omega) | (dsimp only; omega) | (simp only [zA, zS, zD, zN]; dsimp only; omega)) _) | (with_reducible refine Below.setCell ?_ (by first | omega | (simp only [zA, zS, zD, zN]; omega) | (dsimp only; omega) | (simp only [zA, zS, zD, zN]; dsimp only; omega)) _) | (with_reducible apply below_drewN))) (hb2.mono (by first | omega | (simp only [zA, zS, zD, zN]; omega) | (dsimp only; omega) | (simp only [zA, zS, zD, zN]; dsimp only; omega)))
      obtain ⟨hc2, hf2, hz2⟩ := bcell hb2
      try simp only [zA, zS, zD, zN] at hz2
      clear hb2
      have y2_0 : w.heap.size < w2.heap.size := by omega
      go_wp2_with fail
      go_ret
      exact ⟨by rw [HX.out]; rfl, by repeat (first | with_reducible assumption | with_reducible exact Below.refl _ _ | with_reducible apply Below.drew | (with_reducible refine Below.alloc ?_ (by first | omega | (simp only [zA, zS, zD, zN]; omega) | (dsimp only; omega) | (simp only [zA, zS, zD, zN]; dsimp only; omega)) _) | (with_reducible refine Below.setCell ?_ (by first | omega | (simp only [zA, zS, zD, zN]; omega) | (dsimp only; omega) | (simp only [zA, zS, zD, zN]; dsimp only; omega)) _) | (with_reducible apply below_drewN))⟩
    · have hq : (eg == 0) = false := by simpa using he
      rw [hq] at C2
      have HX : Hid (ce = 3) := by show _ = _; rw [HR.out]; simp [he]
      clear he hq HR
      go_enter Tryz.func7, Tryz.ntmps7
      go_wp2_with fail
      refine (C1.out _ (by repeat (first | with_reducible assumption | with_reducible exact Below.refl _ _ | with_reducible apply Below.drew | (with_reducible refine Below.alloc ?_ (by first | omega | (simp only [zA, zS, zD, zN]; omega) | (dsimp only; omega) | (simp only [zA, zS, zD, zN]; dsimp only; omega)) _) | (with_reducible refine Below.setCell ?_ (by first | omega | (simp only [zA, zS, zD, zN]; omega) | (dsimp only; omega) | (simp only [zA, zS, zD, zN]; dsimp only; omega)) _) | (with_reducible apply below_drewN)))).mono ?_
      rintro e w1 ⟨rfl, hb1⟩
      have hB1 : Below w.heap.size w w1 := Below.trans (by repeat (first | with_reducible assumption | with_reducible exact Below.refl _ _ | with_reducible apply Below.drew | (with_reducible refine Below.alloc ?_ (by first | omega | (simp only [zA, zS, zD, zN]; omega) | (dsimp only; omega) | (simp only [zA, zS, zD, zN]; dsimp only; omega)) _) | (with_reducible refine Below.setCell ?_ (by first | omega | (simp only [zA, zS, zD, zN]; omega) | (dsimp only; omega) | (simp only [zA, zS, zD, zN]; dsimp only; omega)) _) | (with_reducible apply below_drewN))) (hb1.mono (by first | omega | (simp only [zA, zS, zD, zN]; omega) | (dsimp only; omega) | (simp only [zA, zS, zD, zN]; dsimp only; omega)))
      obtain ⟨hc1, hf1, hz1⟩ := bcell hb1
      try simp only [zA, zS, zD, zN] at hz1
      clear hb1
      have y1_0 : w.heap.size < w1.heap.size := by omega
      go_wp2_with fail
      refine (C2.out _ (by repeat (first | with_reducible assumption | with_reducible exact Below.refl _ _ | with_reducible apply Below.drew | (with_reducible refine Below.alloc ?_ (by first | omega | (simp only [zA, zS, zD, zN]; omega) | (dsimp only; omega) | (simp only [zA, zS, zD, zN]; dsimp only; omega)) _) | (with_reducible refine Below.setCell ?_ (by first | omega | (simp only [zA, zS, zD, zN]; omega) | (dsimp only; omega) | (simp only [zA, zS, zD, zN]; dsimp only; omega)) _) | (with_reducible apply below_drewN)))).mono ?_
      rintro e w2 ⟨rfl, hb2⟩
      have hB2 : Below w.heap.size w w2 := Below.trans (by repeat (first | with_reducible assumption | with_reducible exact Below.refl _ _ | with_reducible apply Below.drew | (with_reducible refine Below.alloc ?_ (by first | omega | (simp only [zA, zS, zD, zN]; omega) | (dsimp only; omega) | (simp only [zA, zS, zD, zN]; dsimp only; omega)) _) | (with_reducible refine Below.setCell ?_ (by first | omega | (simp only [zA, zS, zD, zN]; omega) | (dsimp only; omega) | (simp only [zA, zS, zD, zN]; dsimp only; omega)) _) | (with_reducible apply below_drewN))) (hb2.mono (by first | omega | (simp only [zA, zS, zD, zN]; omega) | (dsimp only; omega) | (simp only [zA, zS, zD, zN]; dsimp only; omega)))
      obtain ⟨hc2, hf2, hz2⟩ := bcell hb2
      try simp only [zA, zS, zD, zN] at hz2
      clear hb2
      have y2_0 : w.heap.size < w2.heap.size := by omega
      go_wp2_with fail
      go_ret
      exact ⟨by rw [HX.out]; rfl, by repeat (first | with_reducible assumption | with_reducible exact Below.refl _ _ | with_reducible apply Below.drew | (with_reducible refine Below.alloc ?_ (by first | omega | (simp only [zA, zS, zD, zN]; omega) | (dsimp only; omega) | (simp only [zA, zS, zD, zN]; dsimp only; omega)) _) | (with_reducible refine Below.setCell ?_ (by first | omega | (simp only [zA, zS, zD, zN]; omega) | (dsimp only; omega) | (simp only [zA, zS, zD, zN]; dsimp only; omega)) _) | (with_reducible apply below_drewN))⟩
  · have HX : Hid (ce = 4) := by show _ = _; rw [HR.out]; simp
    go_enter Tryz.func7, Tryz.ntmps7
    go_wp2_with fail
    refine (C1.out _ (by repeat (first | with_reducible assumption | with_reducible exact Below.refl _ _ | with_reducible apply Below.drew | (with_reducible refine Below.alloc ?_ (by first | omega | (simp only [zA, zS, zD, zN]; omega) | (dsimp only; omega) | (simp only [zA, zS, zD, zN]; dsimp only; omega)) _) | (with_reducible refine Below.setCell ?_ (by first | omega | (simp only [zA, zS, zD, zN]; omega) | (dsimp only; omega) | (simp only [zA, zS, zD, zN]; dsimp only; omega)) _) | (with_reducible apply below_drewN)))).mono ?_
    rintro e w1 ⟨rfl, hb1⟩
    have hB1 : Below w.heap.size w w1 := Below.trans (by repeat (first | with_reducible assumption | with_reducible exact Below.refl _ _ | with_reducible apply Below.drew | (with_reducible refine Below.alloc ?_ (by first | omega | (simp only [zA, zS, zD, zN]; omega) | (dsimp only; omega) | (simp only [zA, zS, zD, zN]; dsimp only; omega)) _) | (with_reducible refine Below.setCell ?_ (by first | omega | (simp only [zA, zS, zD, zN]; omega) | (dsimp only; omega) | (simp only [zA, zS, zD, zN]; dsimp only; omega)) _) | (with_reducible apply below_drewN))) (hb1.mono (by first | omega | (simp only [zA, zS, zD, zN]; omega) | (dsimp only; omega) | (simp only [zA, zS, zD, zN]; dsimp only; omega)))
    obtain ⟨hc1, hf1, hz1⟩ := bcell hb1
    try simp only [zA, zS, zD, zN] at hz1
    clear hb1
    have y1_0 : w.heap.size < w1.heap.size := by omega
    go_wp2_with fail
    go_ret
    exact ⟨by rw [HX.out]; rfl, by repeat (first | with_reducible assumption | with_reducible exact Below.refl _ _ | with_reducible apply Below.drew | (with_reducible refine Below.alloc ?_ (by first | omega | (simp only [zA, zS, zD, zN]; omega) | (dsimp only; omega) | (simp only [zA, zS, zD, zN]; dsimp only; omega)) _) | (with_reducible refine Below.setCell ?_ (by first | omega | (simp only [zA, zS, zD, zN]; omega) | (dsimp only; omega) | (simp only [zA, zS, zD, zN]; dsimp only; omega)) _) | (with_reducible apply below_drewN))⟩
end Go.Proofs.YtibmnifenfingaaGreatDoor
