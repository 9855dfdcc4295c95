/- The walks through the document's answers on generators: too many parts. -/
import Derived.Test.YtibmnifenfingaaGreatDoorGENC
import Derived.Deep.DeepCutAuto
namespace Go.Proofs.YtibmnifenfingaaGreatDoor
set_option maxRecDepth 100000
open Go.RowKit
set_option linter.unusedSimpArgs false
set_option linter.unusedVariables false
set_option maxHeartbeats 2000000 in
theorem rlarge_any (g : GT) : ∀ (d : Nat) (v : Value) (w : World), d ≤ 6 → GenAt w v g → Calls Tryz.prog 15 #[v, .int .i64 d] w fun e w' => e = .returned (.tuple #[.int .i64 (GT.parts g d).1, .bool (!(GT.parts g d).2)]) ∧ Below w.heap.size w w' := by
  induction g using GT.ind with
  | h k a b s ih =>
    intro d v w hd hg
    obtain ⟨k', a', b', s', ad, cap, hmk, rfl, hk, ha, hb, hl, hm, hs⟩ := hg.form
    obtain ⟨rfl, rfl, rfl, rfl⟩ := GT.mk.inj hmk
    clear hg hmk
    have IH := Lib.hid ih
    clear ih
    have HP : Hid (GT.parts (.mk k a b s) d = ((GT.partsL (s.drop 0) d (1, decide (d < 6))).1, (GT.partsL (s.drop 0) d (1, decide (d < 6))).2 && decide ((GT.partsL (s.drop 0) d (1, decide (d < 6))).1 ≤ 30))) := rfl
    by_cases h6 : d < 6
    · have hd6 : ¬ (6 : Int) ≤ (d : Int) := by omega
      rw [decide_eq_true h6] at HP
      go_enter Tryz.func15, Tryz.ntmps15
      go_wp2_with fail
      generalize hW0 : w.alloc (.cells #[.int .i64 k, .int .i64 a, .int .i64 b, .slice ad s.length cap] 24) = W0
      have hB0 : Below w.heap.size w W0 := by rw [← hW0]; repeat (first | with_reducible assumption | with_reducible exact Below.refl _ _ | with_reducible apply Below.drew | (with_reducible refine Below.alloc ?_ (by first | omega | (simp only [zA, zS, zD, zN]; omega) | (dsimp only; omega) | (simp only [zA, zS, zD, zN]; dsimp only; omega)) _) | (with_reducible refine Below.setCell ?_ (by first | omega | (simp only [zA, zS, zD, zN]; omega) | (dsimp only; omega) | (simp only [zA, zS, zD, zN]; dsimp only; omega)) _) | (with_reducible apply below_drewN))
      have X0 : Blk W0 w.heap.size #[.int .i64 k, .int .i64 a, .int .i64 b, .slice ad s.length cap] 24 := by rw [← hW0]; exact Blk.new _ _ _
      have hs1 := hs.ext hB0
      clear hs hW0 hd6
      go_loopw [6, 7] (fun nv i wr => ∃ (j n : Nat), j ≤ s.length ∧ nv = .int .i64 n ∧ i = .int .i64 j ∧ Below W0.heap.size W0 wr ∧ Hid (GT.partsL (s.drop 0) d (1, true) = GT.partsL (s.drop j) d (n, true)) ∧ n ≤ 30) (fun _ i _ => s.length - (intOf i).toNat)
      case atStart => exact ⟨0, 1, by omega, rfl, rfl, Below.refl _ _, rfl, by omega⟩
      case round =>
        obtain ⟨j, n, hj, rfl, rfl, hb2, HE, hn3⟩ := hrel
        have hzr := hb2.size
        have hz0 := hB0.size
        have hBr : Below w.heap.size w wr := hB0.trans (hb2.mono hB0.size)
        have xr := X0.ext hb2
        have f0 := xr.cell 0
        have f1 := xr.cell 1
        have f2 := xr.cell 2
        have f3 := xr.cell 3
        simp only [List.getElem?_toArray, List.getElem?_cons_succ, List.getElem?_cons_zero] at f0 f1 f2 f3
        by_cases hlt : j < s.length
        · have p0 : (0 : Int) ≤ (j : Int) := by omega
          have p1 : (j : Int) < (s.length : Int) := by omega
          obtain ⟨bl, off, rfl, hlt1, hc⟩ := (hs1.ext hb2).at' (by omega)
          obtain ⟨k2, a2, b2, t2, ad2, cap2, c0, c1, c2, c3, hg2⟩ := hc j hlt
          clear hc hs1
          have CK := Lib.hid (fun W hW => IH.out s[j] (List.getElem_mem hlt) (d + 1) (.agg #[.int .i64 k2, .int .i64 a2, .int .i64 b2, .slice ad2 t2 cap2]) W (by omega) (hg2.ext hW))
          have HST := Lib.hid (GT.partsL_step s d j hlt n)
          have hkl := GT.parts_le s[j] (d + 1) (by omega)
          generalize GT.parts s[j] (d + 1) = pk at *
          obtain ⟨kn, ko⟩ := pk
          dsimp only at *
          have ec : ((d + 1 : Nat) : Int) = (d : Int) + 1 := by omega
          rw [ec] at CK
          go_wp2_with fail
          refine (CK.out _ (by repeat (first | with_reducible assumption | with_reducible exact Below.refl _ _ | with_reducible apply Below.drew | (with_reducible refine Below.alloc ?_ (by first | omega | (simp only [zA, zS, zD, zN]; omega) | (dsimp only; omega) | (simp only [zA, zS, zD, zN]; dsimp only; omega)) _) | (with_reducible refine Below.setCell ?_ (by first | omega | (simp only [zA, zS, zD, zN]; omega) | (dsimp only; omega) | (simp only [zA, zS, zD, zN]; dsimp only; omega)) _) | (with_reducible apply below_drewN)))).mono ?_
          rintro e w3 ⟨rfl, hb3⟩
          have hB3 : Below W0.heap.size W0 w3 := Below.trans (by repeat (first | with_reducible assumption | with_reducible exact Below.refl _ _ | with_reducible apply Below.drew | (with_reducible refine Below.alloc ?_ (by first | omega | (simp only [zA, zS, zD, zN]; omega) | (dsimp only; omega) | (simp only [zA, zS, zD, zN]; dsimp only; omega)) _) | (with_reducible refine Below.setCell ?_ (by first | omega | (simp only [zA, zS, zD, zN]; omega) | (dsimp only; omega) | (simp only [zA, zS, zD, zN]; dsimp only; omega)) _) | (with_reducible apply below_drewN))) (hb3.mono (by first | omega | (simp only [zA, zS, zD, zN]; omega) | (dsimp only; omega) | (simp only [zA, zS, zD, zN]; dsimp only; omega)))
          have hB4 : Below w.heap.size w w3 := hB0.trans (hB3.mono hB0.size)
          clear hb3
          have hsum : (n : Int) + (kn : Int) ≤ 300 := by omega
          cases ko with
          | true =>
            by_cases h30 : n + kn ≤ 30
            · have h30' : ¬ (30 : Int) < (n : Int) + (kn : Int) := by omega
              have HDD : Hid (decide (n + kn ≤ 30) = true) := decide_eq_true h30
              go_wp2_with fail
              exact ⟨⟨j + 1, n + kn, by omega, by go_num, by go_num, hB3, by have := HST.out; rw [HE.out, this, HDD.out]; rfl, h30⟩, by simp [intOf]; omega⟩
            · have h30' : (30 : Int) < (n : Int) + (kn : Int) := by omega
              have HDD : Hid (decide (n + kn ≤ 30) = false) := decide_eq_false h30
              go_wp2_with fail
              go_ret2
              refine ⟨?_, hB4⟩
              have h1 := HE.out.trans HST.out
              rw [HDD.out, Bool.and_false, GT.partsL_stop] at h1
              rw [HP.out, h1]
              simp
          | false =>
            go_wp2_with fail
            go_ret2
            refine ⟨?_, hB4⟩
            have h1 := HE.out.trans HST.out
            rw [Bool.false_and, GT.partsL_stop] at h1
            rw [HP.out, h1]
            simp
        · have HF := HE.out
          rw [List.drop_eq_nil_of_le (by omega : s.length ≤ j)] at HF
          have HF2 : GT.partsL (s.drop 0) d (1, true) = (n, true) := HF
          have HP2 := HP.out
          rw [HF2] at HP2
          have HX := Lib.hid HP2
          have h30' : ¬ (30 : Int) < (n : Int) := by omega
          have HDD : Hid (decide (n ≤ 30) = true) := decide_eq_true hn3
          clear HP2 HF HF2
          go_wp2_with fail
          go_ret2
          exact ⟨by rw [HX.out, HDD.out]; rfl, hBr⟩
    · have hd6 : (6 : Int) ≤ (d : Int) := by omega
      rw [decide_eq_false h6, GT.partsL_stop] at HP
      go_enter Tryz.func15, Tryz.ntmps15
      go_wp2_with fail
      go_ret2
      exact ⟨by rw [HP.out]; rfl, by repeat (first | with_reducible assumption | with_reducible exact Below.refl _ _ | with_reducible apply Below.drew | (with_reducible refine Below.alloc ?_ (by first | omega | (simp only [zA, zS, zD, zN]; omega) | (dsimp only; omega) | (simp only [zA, zS, zD, zN]; dsimp only; omega)) _) | (with_reducible refine Below.setCell ?_ (by first | omega | (simp only [zA, zS, zD, zN]; omega) | (dsimp only; omega) | (simp only [zA, zS, zD, zN]; dsimp only; omega)) _) | (with_reducible apply below_drewN))⟩
end Go.Proofs.YtibmnifenfingaaGreatDoor
