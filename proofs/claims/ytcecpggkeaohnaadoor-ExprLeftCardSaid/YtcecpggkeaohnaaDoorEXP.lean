/- The walks through an expression's parts. -/
import Derived.Test.YtcecpggkeaohnaaDoorETree
import Derived.Test.YtcecpggkeaohnaaDoorGenN
namespace Go.Proofs.YtcecpggkeaohnaaDoor
set_option maxRecDepth 100000
open Go.RowKit
set_option linter.unusedSimpArgs false
set_option linter.unusedVariables false
theorem below_drewN {b : Nat} {w w' : World} {n : Nat} (h : Below b w w') : Below b w (w'.drewN n) := h.trans ⟨rfl, rfl, rfl, Nat.le_refl _, fun _ _ => rfl⟩
/-- The table of how many lie in each kind. -/
def TakesAt (w : World) : Prop := ∀ k : Nat, k < 12 → w.cell? ⟨0, k, none⟩ = some (.int .i64 (ET.takes k))
theorem TakesAt.ext {w w' : World} (h : TakesAt w) (hb : Below w.heap.size w w') : TakesAt w' := fun k hk => by
  have h1 := h k hk
  rw [hb.cell (p := ⟨0, k, none⟩) (World.block_lt_of_cell? w _ h1)]
  exact h1
set_option maxHeartbeats 4000000 in
theorem xparts_any (g : ET) : ∀ (d : Nat) (v : Value) (w : World), d ≤ 6 → ExprAt w v g → Calls Tryd.prog 59 #[v, .int .i64 d] w fun e w' => e = .returned (.int .i64 (ET.parts g d)) ∧ Below w.heap.size w w' := by
  induction g using ET.ind with
  | h k n s ih =>
    intro d v w hd hg
    obtain ⟨k', n', s', ad, cap, hmk, rfl, hk, hn, hl, hm, hs⟩ := hg.form
    obtain ⟨rfl, rfl, rfl⟩ := ET.mk.inj hmk
    clear hg hmk
    have IH := Lib.hid ih
    clear ih
    by_cases h6 : 6 ≤ d
    · have hr : ET.parts (.mk k n s) d = 31 := by simp [ET.parts, h6]
      rw [hr]
      have z1 : (6 : Int) ≤ (d : Int) := by omega
      clear h6 hr
      go_enter Tryd.func59, Tryd.ntmps59
      go_wp2_with fail
      go_ret
      exact ⟨rfl, by repeat (first | with_reducible assumption | with_reducible exact Below.refl _ _ | with_reducible apply Below.drew | (with_reducible refine Below.alloc ?_ (by first | omega | (simp only [World.size_alloc, size_setCell, size_drew, size_drewN]; omega) | (dsimp only; omega) | (simp only [World.size_alloc, size_setCell, size_drew, size_drewN]; dsimp only; omega)) _) | (with_reducible refine Below.setCell ?_ (by first | omega | (simp only [World.size_alloc, size_setCell, size_drew, size_drewN]; omega) | (dsimp only; omega) | (simp only [World.size_alloc, size_setCell, size_drew, size_drewN]; dsimp only; omega)) _) | (with_reducible apply below_drewN))⟩
    · have HP : Hid (ET.parts (.mk k n s) d = ET.partsL (s.drop 0) d 1) := by show _ = _; simp [ET.parts, h6]
      have z1 : ¬ (6 : Int) ≤ (d : Int) := by omega
      have hd6 : d < 6 := by omega
      clear h6
      go_enter Tryd.func59, Tryd.ntmps59
      go_wp2_with fail
      generalize hW0 : w.alloc (.cells #[.int .i64 k, .int .i64 n, .slice ad s.length cap] 24) = W0
      have hB0 : Below w.heap.size w W0 := by rw [← hW0]; repeat (first | with_reducible assumption | with_reducible exact Below.refl _ _ | with_reducible apply Below.drew | (with_reducible refine Below.alloc ?_ (by first | omega | (simp only [World.size_alloc, size_setCell, size_drew, size_drewN]; omega) | (dsimp only; omega) | (simp only [World.size_alloc, size_setCell, size_drew, size_drewN]; dsimp only; omega)) _) | (with_reducible refine Below.setCell ?_ (by first | omega | (simp only [World.size_alloc, size_setCell, size_drew, size_drewN]; omega) | (dsimp only; omega) | (simp only [World.size_alloc, size_setCell, size_drew, size_drewN]; dsimp only; omega)) _) | (with_reducible apply below_drewN))
      have hs1 := hs.ext hB0
      clear hs hW0
      go_loopw [5, 13] (fun q i wr => ∃ (j r : Nat), j ≤ s.length ∧ q = .int .i64 r ∧ i = .int .i64 j ∧ r ≤ 30 ∧ Below W0.heap.size W0 wr ∧ Hid (ET.partsL (s.drop 0) d 1 = ET.partsL (s.drop j) d r)) (fun _ i _ => s.length - (intOf i).toNat)
      case atStart => exact ⟨0, 1, by omega, rfl, rfl, by omega, Below.refl _ _, rfl⟩
      case round =>
        obtain ⟨j, r, hj, rfl, rfl, hr30, hb2, HE⟩ := hrel
        have hzr := hb2.size
        have hz0 := hB0.size
        have hBr : Below w.heap.size w wr := hB0.trans (hb2.mono hB0.size)
        by_cases hlt : j < s.length
        · have p0 : (0 : Int) ≤ (j : Int) := by omega
          have p1 : (j : Int) < (s.length : Int) := by omega
          obtain ⟨bl, off, rfl, hlt1, hc⟩ := (hs1.ext hb2).at' (by omega)
          obtain ⟨k2, n2, t2, ad2, cap2, c0, c1, c2, hg2⟩ := hc j hlt
          clear hc hs1
          have CK := Lib.hid (fun W hW => IH.out s[j] (List.getElem_mem hlt) (d + 1) (.agg #[.int .i64 k2, .int .i64 n2, .slice ad2 t2 cap2]) W (by omega) (hg2.ext hW))
          have HST := Lib.hid (ET.partsL_step s d j hlt r)
          have hkl := ET.parts_le s[j] (d + 1) (by omega)
          generalize ET.parts s[j] (d + 1) = kn at *
          have ec : ((d + 1 : Nat) : Int) = (d : Int) + 1 := by omega
          rw [ec] at CK
          have hkl2 : kn ≤ 300 := by omega
          go_wp2_with fail
          refine (CK.out _ (by repeat (first | with_reducible assumption | with_reducible exact Below.refl _ _ | with_reducible apply Below.drew | (with_reducible refine Below.alloc ?_ (by first | omega | (simp only [World.size_alloc, size_setCell, size_drew, size_drewN]; omega) | (dsimp only; omega) | (simp only [World.size_alloc, size_setCell, size_drew, size_drewN]; dsimp only; omega)) _) | (with_reducible refine Below.setCell ?_ (by first | omega | (simp only [World.size_alloc, size_setCell, size_drew, size_drewN]; omega) | (dsimp only; omega) | (simp only [World.size_alloc, size_setCell, size_drew, size_drewN]; dsimp only; omega)) _) | (with_reducible apply below_drewN)))).mono ?_
          rintro e w3 ⟨rfl, hb3⟩
          have hB3 : Below W0.heap.size W0 w3 := Below.trans (by repeat (first | with_reducible assumption | with_reducible exact Below.refl _ _ | with_reducible apply Below.drew | (with_reducible refine Below.alloc ?_ (by first | omega | (simp only [World.size_alloc, size_setCell, size_drew, size_drewN]; omega) | (dsimp only; omega) | (simp only [World.size_alloc, size_setCell, size_drew, size_drewN]; dsimp only; omega)) _) | (with_reducible refine Below.setCell ?_ (by first | omega | (simp only [World.size_alloc, size_setCell, size_drew, size_drewN]; omega) | (dsimp only; omega) | (simp only [World.size_alloc, size_setCell, size_drew, size_drewN]; dsimp only; omega)) _) | (with_reducible apply below_drewN))) (hb3.mono (by first | omega | (simp only [World.size_alloc, size_setCell, size_drew, size_drewN]; omega) | (dsimp only; omega) | (simp only [World.size_alloc, size_setCell, size_drew, size_drewN]; dsimp only; omega)))
          clear hb3
          by_cases h30 : 30 < r + kn
          · have h30' : (30 : Int) < (r : Int) + (kn : Int) := by omega
            have HX : Hid (ET.parts (.mk k n s) d = r + kn) := by
              have h1 := HST.out
              rw [if_pos h30] at h1
              exact HP.out.trans (HE.out.trans h1)
            clear h30
            go_wp2_with fail
            go_ret
            exact ⟨by rw [HX.out]; simp, hB0.trans (hB3.mono hB0.size)⟩
          · have h30' : ¬ (30 : Int) < (r : Int) + (kn : Int) := by omega
            have HX : Hid (ET.partsL (s.drop 0) d 1 = ET.partsL (s.drop (j + 1)) d (r + kn)) := by
              have h1 := HST.out
              rw [if_neg h30] at h1
              exact HE.out.trans h1
            have h31 : r + kn ≤ 30 := by omega
            clear h30
            go_wp2_with fail
            exact ⟨⟨j + 1, r + kn, by omega, by go_num, by go_num, h31, hB3, HX⟩, by simp [intOf]; omega⟩
        · have HF := HE.out
          rw [List.drop_eq_nil_of_le (by omega : s.length ≤ j)] at HF
          have HX : Hid (ET.parts (.mk k n s) d = r) := HP.out.trans HF
          have p1 : ¬ (j : Int) < (s.length : Int) := by omega
          clear HF
          go_wp2_with fail
          go_ret
          exact ⟨by rw [HX.out]; rfl, hBr⟩
end Go.Proofs.YtcecpggkeaohnaaDoor
