/- The walk through the statement RoseTells. -/
import Derived.Test.YtbmdjchlbhlgmaaDoorRF4
import Derived.Test.YtbmdjchlbhlgmaaDoorRF12
import Derived.Test.YtbmdjchlbhlgmaaDoorRL2b
import Derived.Test.YtbmdjchlbhlgmaaDoorRSE
import Derived.Test.YtbmdjchlbhlgmaaDoorLMade
import Derived.Test.YtbmdjchlbhlgmaaDoorTAs
namespace Go.Proofs.YtbmdjchlbhlgmaaDoor
set_option maxRecDepth 100000
open Go.RowKit
set_option linter.unusedSimpArgs false
set_option linter.unusedVariables false
theorem RwAt.ext {w w' : World} {S : Nat → Prop} {v : Value} {B : List (List Int)} (h : RwAt IntsS w S v B) (hb : Below w.heap.size w w') : RwAt IntsS w' S v B := h.keep IntsS.reads hb.size (fun b hs hl => ⟨hs, hb.block b hl⟩)
theorem rw_nil (w : World) (S : Nat → Prop) : RwAt IntsS w S (.slice none 0 0) [] := ⟨none, 0, rfl, by simp, by decide, fun _ => rfl, fun h => absurd h (by simp)⟩
set_option maxHeartbeats 16000000 in
theorem roseTells_go (w : World) (hE : ErrTypeAt w) {gv lv : Value} (g : GT) (hg : GenAt w gv g) (l : List Int) (hl : IntsAt w lv l) :
    Calls Tryd.prog 5 #[gv, lv] w fun e w' => e = .returned (.bool true) ∧ Below w.heap.size w w' := by
  obtain ⟨k0, a0, b0, s0, g0, c0, rfl⟩ := hg.shape
  obtain ⟨lad, lcap, rfl, _⟩ := hl.form
  have HE := Lib.hid hE
  have HG := Lib.hid hg
  have HL := Lib.hid hl
  have CE0 : Hid (∀ W, ErrTypeAt W → Calls Tryd.prog 15 #[.nilIface, .int .i64 0] W fun ev w' => ev = .returned (.bool true) ∧ Below W.heap.size W w') := fun W h => by have := error_yes 0 W h; rw [errV_zero] at this; exact this
  clear hE hg hl
  go_enter Tryd.func5, Tryd.ntmps5
  go_wp2_with fail
  generalize hW0 : (w.alloc (.cells #[.int .i64 k0, .int .i64 a0, .int .i64 b0, .slice g0 s0 c0] 45)) = W0
  have hB0 : Below w.heap.size w W0 := by rw [← hW0]; repeat (first | with_reducible assumption | with_reducible exact Below.refl _ _ | with_reducible apply Below.drew | (with_reducible refine Below.alloc ?_ (by first | omega | (simp only [World.size_alloc, size_setCell, size_drew, size_drewN]; omega) | (dsimp only; omega) | (simp only [World.size_alloc, size_setCell, size_drew, size_drewN]; dsimp only; omega)) _) | (with_reducible refine Below.setCell ?_ (by first | omega | (simp only [World.size_alloc, size_setCell, size_drew, size_drewN]; omega) | (dsimp only; omega) | (simp only [World.size_alloc, size_setCell, size_drew, size_drewN]; dsimp only; omega)) _) | (with_reducible apply below_drewN))
  have X0 : Blk W0 (w.heap.size) #[.int .i64 k0, .int .i64 a0, .int .i64 b0, .slice g0 s0 c0] 45 := by rw [← hW0]; exact (Blk.new w #[.int .i64 k0, .int .i64 a0, .int .i64 b0, .slice g0 s0 c0] 45)
  clear hW0
  refine (made_fact _).mono ?_
  rintro e W1 ⟨rfl, hb⟩
  have hB1 : Below w.heap.size w W1 := hB0.trans (hb.mono hB0.size)
  have X0 := X0.ext hb
  clear hb hB0
  have f0_0 := X0.cell 0
  have f0_1 := X0.cell 1
  have f0_2 := X0.cell 2
  have f0_3 := X0.cell 3
  simp only [List.getElem?_toArray, List.getElem?_cons_succ, List.getElem?_cons_zero] at f0_0 f0_1 f0_2 f0_3
  go_wp2_with fail
  refine (rgfault_any g _ _ (HG.out.ext hB1)).mono ?_
  rintro e W2 ⟨rfl, hb⟩
  clear f0_0 f0_1 f0_2 f0_3
  have hB2 : Below w.heap.size w W2 := hB1.trans (hb.mono hB1.size)
  have X0 := X0.ext hb
  clear hb hB1
  by_cases hc : GT.check g = 0
  case neg =>
    have hq : (GT.check g == 0) = false := by simpa using hc
    have HPL : Hid (playR g l = (zeroV, GT.check g)) := by show _ = _; unfold playR; rw [if_neg hc]
    have CB := Lib.hid (fun W h => by have := rose_bad g l (by rw [HPL.out]; exact hc) _ _ W (HG.out.ext (w' := W) h) (HL.out.ext h); rw [HPL.out] at this; exact this)
    clear hc
    generalize GT.check g = ce at *
    have f0_0 := X0.cell 0
    have f0_1 := X0.cell 1
    have f0_2 := X0.cell 2
    have f0_3 := X0.cell 3
    simp only [List.getElem?_toArray, List.getElem?_cons_succ, List.getElem?_cons_zero] at f0_0 f0_1 f0_2 f0_3
    go_wp2_with fail
    refine (CB.out _ hB2).mono ?_
    rintro e W3 ⟨rfl, hb⟩
    clear f0_0 f0_1 f0_2 f0_3
    have hB3 : Below w.heap.size w W3 := hB2.trans (hb.mono hB2.size)
    have X0 := X0.ext hb
    clear hb hB2
    go_wp2_with fail
    refine (error_yes (ce) _ (HE.out.ext hB3)).mono ?_
    rintro e W4 ⟨rfl, hb⟩
    have hB4 : Below w.heap.size w W4 := hB3.trans (hb.mono hB3.size)
    have X0 := X0.ext hb
    clear hb hB3
    go_wp2_with fail
    refine (rows_same _ _ (fun _ => True) (fun _ => True) [] _ (rw_nil _ _) (rw_nil _ _)).mono ?_
    rintro e W5 ⟨rfl, hb⟩
    have hB5 : Below w.heap.size w W5 := hB4.trans (hb.mono hB4.size)
    have X0 := X0.ext hb
    clear hb hB4
    go_wp2_with fail
    go_ret
    exact ⟨by simp, hB5⟩
  rw [hc]
  have HC := Lib.hid hc
  clear hc
  have f0_0 := X0.cell 0
  have f0_1 := X0.cell 1
  have f0_2 := X0.cell 2
  have f0_3 := X0.cell 3
  simp only [List.getElem?_toArray, List.getElem?_cons_succ, List.getElem?_cons_zero] at f0_0 f0_1 f0_2 f0_3
  go_wp2_with fail
  refine (rreplay_any g HC.out l _ _ _ (HG.out.ext hB2) (HL.out.ext hB2)).mono ?_
  rintro e W3 ⟨⟨rv, rfl, hrv⟩, hb⟩
  clear f0_0 f0_1 f0_2 f0_3
  have hB3 : Below w.heap.size w W3 := hB2.trans (hb.mono hB2.size)
  have X0 := X0.ext hb
  clear hb hB2
  clear hrv
  by_cases hp : (playR g l).2 = 0
  case neg =>
    have hq : ((playR g l).2 == 0) = false := by simpa using hp
    have CB := Lib.hid (fun W h => rose_bad g l hp _ _ W (HG.out.ext (w' := W) h) (HL.out.ext h))
    clear hp
    generalize (playR g l).2 = ce at *
    have f0_0 := X0.cell 0
    have f0_1 := X0.cell 1
    have f0_2 := X0.cell 2
    have f0_3 := X0.cell 3
    simp only [List.getElem?_toArray, List.getElem?_cons_succ, List.getElem?_cons_zero] at f0_0 f0_1 f0_2 f0_3
    go_wp2_with fail
    refine (CB.out _ hB3).mono ?_
    rintro e W4 ⟨rfl, hb⟩
    clear f0_0 f0_1 f0_2 f0_3
    have hB4 : Below w.heap.size w W4 := hB3.trans (hb.mono hB3.size)
    have X0 := X0.ext hb
    clear hb hB3
    go_wp2_with fail
    refine (error_yes (ce) _ (HE.out.ext hB4)).mono ?_
    rintro e W5 ⟨rfl, hb⟩
    have hB5 : Below w.heap.size w W5 := hB4.trans (hb.mono hB4.size)
    have X0 := X0.ext hb
    clear hb hB4
    go_wp2_with fail
    refine (rows_same _ _ (fun _ => True) (fun _ => True) [] _ (rw_nil _ _) (rw_nil _ _)).mono ?_
    rintro e W6 ⟨rfl, hb⟩
    have hB6 : Below w.heap.size w W6 := hB5.trans (hb.mono hB5.size)
    have X0 := X0.ext hb
    clear hb hB5
    go_wp2_with fail
    go_ret
    exact ⟨by simp, hB6⟩
  rw [hp]
  have HP := Lib.hid hp
  clear hp
  have f0_0 := X0.cell 0
  have f0_1 := X0.cell 1
  have f0_2 := X0.cell 2
  have f0_3 := X0.cell 3
  simp only [List.getElem?_toArray, List.getElem?_cons_succ, List.getElem?_cons_zero] at f0_0 f0_1 f0_2 f0_3
  go_wp2_with fail
  refine (rless_any g l HP.out _ _ _ (HG.out.ext hB3) (HL.out.ext hB3)).mono ?_
  rintro e W4 ⟨⟨u1, rfl, hu1⟩, hb⟩
  clear f0_0 f0_1 f0_2 f0_3
  have hB4 : Below w.heap.size w W4 := hB3.trans (hb.mono hB3.size)
  have X0 := X0.ext hb
  clear hb hB3
  have HU1 := Lib.hid hu1
  obtain ⟨ua1, uc1, rfl, _⟩ := hu1
  have f0_0 := X0.cell 0
  have f0_1 := X0.cell 1
  have f0_2 := X0.cell 2
  have f0_3 := X0.cell 3
  simp only [List.getElem?_toArray, List.getElem?_cons_succ, List.getElem?_cons_zero] at f0_0 f0_1 f0_2 f0_3
  go_wp2_with fail
  refine (rose_ok g l HP.out _ _ _ (HG.out.ext hB4) (HL.out.ext hB4)).mono ?_
  rintro e W5 ⟨⟨u2, rfl, hu2⟩, hb⟩
  clear f0_0 f0_1 f0_2 f0_3
  have hB5 : Below w.heap.size w W5 := hB4.trans (hb.mono hB4.size)
  have X0 := X0.ext hb
  have HU1 := Lib.hid (HU1.out.ext hb)
  clear hb hB4
  have HU2 := Lib.hid hu2
  obtain ⟨ua2, uc2, rfl, _⟩ := hu2
  go_wp2_with fail
  refine (CE0.out _ (HE.out.ext hB5)).mono ?_
  rintro e W6 ⟨rfl, hb⟩
  have hB6 : Below w.heap.size w W6 := hB5.trans (hb.mono hB5.size)
  have X0 := X0.ext hb
  have HU1 := Lib.hid (HU1.out.ext hb)
  have HU2 := Lib.hid (HU2.out.ext hb)
  clear hb hB5
  go_wp2_with fail
  refine (rows_same _ _ _ _ _ _ HU2.out HU1.out).mono ?_
  rintro e W7 ⟨rfl, hb⟩
  have hB7 : Below w.heap.size w W7 := hB6.trans (hb.mono hB6.size)
  have X0 := X0.ext hb
  have HU1 := Lib.hid (HU1.out.ext hb)
  have HU2 := Lib.hid (HU2.out.ext hb)
  clear hb hB6
  go_wp2_with fail
  go_ret
  exact ⟨by simp, hB7⟩
end Go.Proofs.YtbmdjchlbhlgmaaDoor
