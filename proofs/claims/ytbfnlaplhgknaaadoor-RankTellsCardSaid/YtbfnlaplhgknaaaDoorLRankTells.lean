/- The walk through the statement RankTells. -/
import Derived.Test.YtbfnlaplhgknaaaDoorTP4
import Derived.Test.YtbfnlaplhgknaaaDoorRF4
import Derived.Test.YtbfnlaplhgknaaaDoorRF5
import Derived.Test.YtbfnlaplhgknaaaDoorRF12
import Derived.Test.YtbfnlaplhgknaaaDoorLMade
import Derived.Test.YtbfnlaplhgknaaaDoorTAs
namespace Go.Proofs.YtbfnlaplhgknaaaDoor
set_option maxRecDepth 100000
open Go.RowKit
set_option linter.unusedSimpArgs false
set_option linter.unusedVariables false
theorem ints_nil (w : World) : IntsAt w (.slice none 0 0) [] := ⟨by simp, .inl ⟨rfl, rfl⟩⟩
/-- Rows, cell by cell. -/
def RowsH (w : World) (bl off : Nat) (B : List (List Int)) : Prop := bl < w.heap.size ∧ ∀ i (h : i < B.length), ∃ a n c, w.cell? ⟨bl, off + i, none⟩ = some (.slice a n c) ∧ IntsAt w (.slice a n c) B[i]
theorem RowsH.ext {w w' : World} {bl off : Nat} {B : List (List Int)} (h : RowsH w bl off B) (hb : Below w.heap.size w w') : RowsH w' bl off B := by
  refine ⟨Nat.lt_of_lt_of_le h.1 hb.size, fun i hi => ?_⟩
  obtain ⟨a, n, c, h1, h2⟩ := h.2 i hi
  exact ⟨a, n, c, (hb.cell (p := ⟨bl, off + i, none⟩) h.1).trans h1, h2.ext hb⟩
theorem RwAt.rowsH {w : World} {S : Nat → Prop} {v : Value} {B : List (List Int)} (h : RwAt IntsS w S v B) (hp : 0 < B.length) : ∃ bl off cap, v = .slice (some ⟨bl, off, none⟩) B.length cap ∧ B.length ≤ cap ∧ RowsH w bl off B := by
  obtain ⟨ad, cap, rfl, h1, _, _, h4⟩ := h
  obtain ⟨bl, off, rfl, h5, _, h6⟩ := h4 hp
  refine ⟨bl, off, cap, rfl, h1, h5, fun i hi => ?_⟩
  obtain ⟨u, hu, hR⟩ := h6 i hi
  obtain ⟨a, n, c, rfl⟩ : ∃ a n c, u = .slice a n c := by obtain ⟨_, a, c, e, _⟩ := hR; exact ⟨_, _, _, e⟩
  exact ⟨a, n, c, hu, hR.at⟩
theorem least_of {P : Nat → Prop} (n : Nat) (h : P n) : ∃ a, a ≤ n ∧ P a ∧ ∀ k, k < a → ¬ P k := by
  induction n using Nat.strongRecOn with
  | _ n ih =>
    by_cases hk : ∃ k, k < n ∧ P k
    · obtain ⟨k, h1, h2⟩ := hk
      obtain ⟨a, h3, h4⟩ := ih k h1 h2
      exact ⟨a, by omega, h4⟩
    · exact ⟨n, Nat.le_refl _, h, fun k h1 h2 => hk ⟨k, h1, h2⟩⟩
theorem GT.okL_one {g : GT} (h : GT.Ok g) : GT.OkL [g] := fun x hx => by rw [List.mem_singleton.1 hx]; exact h
theorem GT.first_at {g : GT} {l : List Int} (hk : GT.Ok g) (hp : (playR g l).2 = 0) : ∃ a : Nat, ∃ h : a < (GT.tps g).length, (GT.tps g)[a] = l ∧ (∀ k (hk : k < a), (GT.tps g)[k] ≠ l) ∧ GT.NthR [g] (a : Int) l := by
  obtain ⟨i, hi⟩ := nth_of_play hk.1 hp
  have hb := hi.bd (GT.okL_one hk)
  have he := GT.tps_enum g hk
  rw [← he.1] at hb
  obtain ⟨n, rfl⟩ := Int.eq_ofNat_of_zero_le hb.1
  have hn : n < (GT.tps g).length := by omega
  have e := GT.NthR.tape (GT.okL_one hk) (he.2 n hn) hi
  obtain ⟨a, h1, ⟨h2, h3⟩, h4⟩ := least_of (P := fun a => ∃ h : a < (GT.tps g).length, (GT.tps g)[a] = l) n ⟨hn, e⟩
  exact ⟨a, h2, h3, fun k hk e => h4 k hk ⟨by omega, e⟩, by have := he.2 a h2; rw [h3] at this; exact this⟩
set_option maxHeartbeats 16000000 in
theorem rankTells_go (w : World) (hE : ErrTypeAt w) {gv iv lv : Value} (g : GT) (hg : GenAt w gv g) (i : Int) (hi : IntAt iv i) (l : List Int) (hl : IntsAt w lv l) :
    Calls Tryd.prog 5 #[gv, iv, lv] w fun e w' => e = .returned (.bool true) ∧ Below w.heap.size w w' := by
  obtain ⟨rfl, _⟩ := hi
  obtain ⟨k0, a0, b0, s0, g0, c0, rfl⟩ := hg.shape
  obtain ⟨lad, lcap, rfl, _⟩ := hl.form
  have HE := Lib.hid hE
  have HG := Lib.hid hg
  have HL := Lib.hid hl
  have CE0 : Hid (∀ W, ErrTypeAt W → Calls Tryd.prog 8 #[.nilIface, .int .i64 0] W fun ev w' => ev = .returned (.bool true) ∧ Below W.heap.size W w') := fun W h => by have := error_yes 0 W h; rw [errV_zero] at this; exact this
  clear hE hg hl
  go_enter Tryd.func5, Tryd.ntmps5
  go_wp2_with fail
  generalize hW0 : (w.alloc (.cells #[.int .i64 k0, .int .i64 a0, .int .i64 b0, .slice g0 s0 c0] 24)) = W0
  have hB0 : Below w.heap.size w W0 := by rw [← hW0]; repeat (first | with_reducible assumption | with_reducible exact Below.refl _ _ | with_reducible apply Below.drew | (with_reducible refine Below.alloc ?_ (by first | omega | (simp only [World.size_alloc, size_setCell, size_drew, size_drewN]; omega) | (dsimp only; omega) | (simp only [World.size_alloc, size_setCell, size_drew, size_drewN]; dsimp only; omega)) _) | (with_reducible refine Below.setCell ?_ (by first | omega | (simp only [World.size_alloc, size_setCell, size_drew, size_drewN]; omega) | (dsimp only; omega) | (simp only [World.size_alloc, size_setCell, size_drew, size_drewN]; dsimp only; omega)) _) | (with_reducible apply below_drewN))
  have X0 : Blk W0 (w.heap.size) #[.int .i64 k0, .int .i64 a0, .int .i64 b0, .slice g0 s0 c0] 24 := by rw [← hW0]; exact (Blk.new w #[.int .i64 k0, .int .i64 a0, .int .i64 b0, .slice g0 s0 c0] 24)
  clear hW0
  refine (made_fact _).mono ?_
  rintro e W1 ⟨rfl, hb⟩
  have hB1 : Below w.heap.size w W1 := hB0.trans (hb.mono hB0.size)
  have X0 := X0.ext hb
  clear hb hB0
  have f0_0 := X0.cell 0
  have f0_1 := X0.cell 1
  have f0_2 := X0.cell 2
  have f0_3 := X0.cell 3
  simp only [List.getElem?_toArray, List.getElem?_cons_succ, List.getElem?_cons_zero] at f0_0 f0_1 f0_2 f0_3
  go_wp2_with fail
  refine (rgfault_any g _ _ (HG.out.ext hB1)).mono ?_
  rintro e W2 ⟨rfl, hb⟩
  clear f0_0 f0_1 f0_2 f0_3
  have hB2 : Below w.heap.size w W2 := hB1.trans (hb.mono hB1.size)
  have X0 := X0.ext hb
  clear hb hB1
  by_cases hc : GT.check g = 0
  case neg =>
    have hq : (GT.check g == 0) = false := by simpa using hc
    have HCR : Hid ((GT.countR g).2 = GT.check g) := by show _ = _; unfold GT.countR; rw [if_neg hc]
    have CN := Lib.hid (fun W h => by have := nth_bad g i (by rw [HCR.out]; exact hc) _ W (HG.out.ext (w' := W) h); rw [HCR.out] at this; exact this)
    have CR := Lib.hid (fun W h => by have := rank_bad1 g (by rw [HCR.out]; exact hc) _ (.slice lad l.length lcap) W (HG.out.ext (w' := W) h); rw [HCR.out] at this; exact this)
    clear HCR
    generalize GT.check g = ce at *
    have f0_0 := X0.cell 0
    have f0_1 := X0.cell 1
    have f0_2 := X0.cell 2
    have f0_3 := X0.cell 3
    simp only [List.getElem?_toArray, List.getElem?_cons_succ, List.getElem?_cons_zero] at f0_0 f0_1 f0_2 f0_3
    go_wp2_with fail
    refine (CN.out _ hB2).mono ?_
    rintro e W3 ⟨rfl, hb⟩
    clear f0_0 f0_1 f0_2 f0_3
    have hB3 : Below w.heap.size w W3 := hB2.trans (hb.mono hB2.size)
    have X0 := X0.ext hb
    clear hb hB2
    go_wp2_with fail
    refine (error_yes (ce) _ (HE.out.ext hB3)).mono ?_
    rintro e W4 ⟨rfl, hb⟩
    have hB4 : Below w.heap.size w W4 := hB3.trans (hb.mono hB3.size)
    have X0 := X0.ext hb
    clear hb hB3
    go_wp2_with fail
    refine (ints_same _ _ ([]) W4 (ints_nil _) (ints_nil _)).mono ?_
    rintro e Wi ⟨rfl, nn, rfl⟩
    have hb : Below W4.heap.size W4 (W4.drewN nn) := by repeat (first | with_reducible assumption | with_reducible exact Below.refl _ _ | with_reducible apply Below.drew | (with_reducible refine Below.alloc ?_ (by first | omega | (simp only [World.size_alloc, size_setCell, size_drew, size_drewN]; omega) | (dsimp only; omega) | (simp only [World.size_alloc, size_setCell, size_drew, size_drewN]; dsimp only; omega)) _) | (with_reducible refine Below.setCell ?_ (by first | omega | (simp only [World.size_alloc, size_setCell, size_drew, size_drewN]; omega) | (dsimp only; omega) | (simp only [World.size_alloc, size_setCell, size_drew, size_drewN]; dsimp only; omega)) _) | (with_reducible apply below_drewN))
    generalize W4.drewN nn = WI4 at *
    have hB5 : Below w.heap.size w WI4 := hB4.trans (hb.mono hB4.size)
    have X0 := X0.ext hb
    clear hb hB4
    have f0_0 := X0.cell 0
    have f0_1 := X0.cell 1
    have f0_2 := X0.cell 2
    have f0_3 := X0.cell 3
    simp only [List.getElem?_toArray, List.getElem?_cons_succ, List.getElem?_cons_zero] at f0_0 f0_1 f0_2 f0_3
    go_wp2_with fail
    refine (CR.out _ hB5).mono ?_
    rintro e W6 ⟨rfl, hb⟩
    clear f0_0 f0_1 f0_2 f0_3
    have hB6 : Below w.heap.size w W6 := hB5.trans (hb.mono hB5.size)
    have X0 := X0.ext hb
    clear hb hB5
    go_wp2_with fail
    refine (error_yes (ce) _ (HE.out.ext hB6)).mono ?_
    rintro e W7 ⟨rfl, hb⟩
    have hB7 : Below w.heap.size w W7 := hB6.trans (hb.mono hB6.size)
    have X0 := X0.ext hb
    clear hb hB6
    go_wp2_with fail
    go_ret
    exact ⟨by simp, hB7⟩
  rw [hc]
  have HC := Lib.hid hc
  clear hc
  have f0_0 := X0.cell 0
  have f0_1 := X0.cell 1
  have f0_2 := X0.cell 2
  have f0_3 := X0.cell 3
  simp only [List.getElem?_toArray, List.getElem?_cons_succ, List.getElem?_cons_zero] at f0_0 f0_1 f0_2 f0_3
  go_wp2_with fail
  refine (rcountof_any g _ _ (GT.check_ok HC.out) (HG.out.ext hB2)).mono ?_
  rintro e W3 ⟨rfl, hb⟩
  clear f0_0 f0_1 f0_2 f0_3
  have hB3 : Below w.heap.size w W3 := hB2.trans (hb.mono hB2.size)
  have X0 := X0.ext hb
  clear hb hB2
  by_cases hB4 : 1048576 < GT.count g
  ·
    have h30 : 3000 < GT.count g := by omega
    have HCR : Hid ((GT.countR g).2 = 4) := by show _ = _; unfold GT.countR; rw [if_pos HC.out, if_pos hB4]
    have CN := Lib.hid (fun W h => by have := nth_bad g i (by rw [HCR.out]; exact (by decide)) _ W (HG.out.ext (w' := W) h); rw [HCR.out] at this; exact this)
    have CR := Lib.hid (fun W h => by have := rank_bad1 g (by rw [HCR.out]; exact (by decide)) _ (.slice lad l.length lcap) W (HG.out.ext (w' := W) h); rw [HCR.out] at this; exact this)
    clear HCR
    generalize GT.count g = cn at *
    have f0_0 := X0.cell 0
    have f0_1 := X0.cell 1
    have f0_2 := X0.cell 2
    have f0_3 := X0.cell 3
    simp only [List.getElem?_toArray, List.getElem?_cons_succ, List.getElem?_cons_zero] at f0_0 f0_1 f0_2 f0_3
    go_wp2_with fail
    refine (CN.out _ hB3).mono ?_
    rintro e W4 ⟨rfl, hb⟩
    clear f0_0 f0_1 f0_2 f0_3
    have hB4 : Below w.heap.size w W4 := hB3.trans (hb.mono hB3.size)
    have X0 := X0.ext hb
    clear hb hB3
    go_wp2_with fail
    refine (error_yes (4) _ (HE.out.ext hB4)).mono ?_
    rintro e W5 ⟨rfl, hb⟩
    have hB5 : Below w.heap.size w W5 := hB4.trans (hb.mono hB4.size)
    have X0 := X0.ext hb
    clear hb hB4
    go_wp2_with fail
    refine (ints_same _ _ ([]) W5 (ints_nil _) (ints_nil _)).mono ?_
    rintro e Wi ⟨rfl, nn, rfl⟩
    have hb : Below W5.heap.size W5 (W5.drewN nn) := by repeat (first | with_reducible assumption | with_reducible exact Below.refl _ _ | with_reducible apply Below.drew | (with_reducible refine Below.alloc ?_ (by first | omega | (simp only [World.size_alloc, size_setCell, size_drew, size_drewN]; omega) | (dsimp only; omega) | (simp only [World.size_alloc, size_setCell, size_drew, size_drewN]; dsimp only; omega)) _) | (with_reducible refine Below.setCell ?_ (by first | omega | (simp only [World.size_alloc, size_setCell, size_drew, size_drewN]; omega) | (dsimp only; omega) | (simp only [World.size_alloc, size_setCell, size_drew, size_drewN]; dsimp only; omega)) _) | (with_reducible apply below_drewN))
    generalize W5.drewN nn = WI5 at *
    have hB6 : Below w.heap.size w WI5 := hB5.trans (hb.mono hB5.size)
    have X0 := X0.ext hb
    clear hb hB5
    have f0_0 := X0.cell 0
    have f0_1 := X0.cell 1
    have f0_2 := X0.cell 2
    have f0_3 := X0.cell 3
    simp only [List.getElem?_toArray, List.getElem?_cons_succ, List.getElem?_cons_zero] at f0_0 f0_1 f0_2 f0_3
    go_wp2_with fail
    refine (CR.out _ hB6).mono ?_
    rintro e W7 ⟨rfl, hb⟩
    clear f0_0 f0_1 f0_2 f0_3
    have hB7 : Below w.heap.size w W7 := hB6.trans (hb.mono hB6.size)
    have X0 := X0.ext hb
    clear hb hB6
    go_wp2_with fail
    refine (error_yes (4) _ (HE.out.ext hB7)).mono ?_
    rintro e W8 ⟨rfl, hb⟩
    have hB8 : Below w.heap.size w W8 := hB7.trans (hb.mono hB7.size)
    have X0 := X0.ext hb
    clear hb hB7
    go_wp2_with fail
    go_ret
    exact ⟨by simp, hB8⟩
  by_cases h30 : 3000 < GT.count g
  ·
    generalize GT.count g = cn at *
    go_wp2_with fail
    go_ret
    exact ⟨by simp, hB3⟩
  have HOK : Hid (GT.Ok g) := ⟨HC.out, by omega⟩
  have HCN : Hid (GT.count g ≤ 3000) := by show _ ≤ _; omega
  have hbd := GT.tps_bd HOK.out
  have hpos := HOK.out.pos
  have HTL := Lib.hid hbd.2
  have HEN := Lib.hid (GT.tps_enum g HOK.out)
  obtain ⟨N, hN⟩ : ∃ N, N = (GT.tps g).length := ⟨_, rfl⟩
  have hcn : GT.count g = (N : Int) := by rw [hN]; exact hbd.1.symm
  rw [hcn] at hB4 h30 hpos ⊢
  have hN3 : N ≤ 3000 := by omega
  have hN0 : 0 < N := by omega
  have HNN := Lib.hid hN
  have HCT := Lib.hid hcn
  clear hbd hN hcn hpos
  have f0_0 := X0.cell 0
  have f0_1 := X0.cell 1
  have f0_2 := X0.cell 2
  have f0_3 := X0.cell 3
  simp only [List.getElem?_toArray, List.getElem?_cons_succ, List.getElem?_cons_zero] at f0_0 f0_1 f0_2 f0_3
  go_wp2_with fail
  refine (rtapes_any g _ _ HOK.out HCN.out (HG.out.ext hB3)).mono ?_
  rintro e W4 ⟨⟨u1, rfl, hu1⟩, hb⟩
  clear f0_0 f0_1 f0_2 f0_3
  have hB4 : Below w.heap.size w W4 := hB3.trans (hb.mono hB3.size)
  have X0 := X0.ext hb
  clear hb hB3
  obtain ⟨ubl, uoff, ucap, rfl, hucap, huu⟩ := hu1.rowsH (by rw [← HNN.out]; exact hN0)
  rw [← HNN.out] at hucap ⊢
  have HUU := Lib.hid huu
  clear hu1 huu
  by_cases i0 : i < 0
  ·
    have CN := Lib.hid (fun W h => nth_out g HOK.out i (.inl i0) _ W (HG.out.ext (w' := W) h))
    have f0_0 := X0.cell 0
    have f0_1 := X0.cell 1
    have f0_2 := X0.cell 2
    have f0_3 := X0.cell 3
    simp only [List.getElem?_toArray, List.getElem?_cons_succ, List.getElem?_cons_zero] at f0_0 f0_1 f0_2 f0_3
    go_wp2_with fail
    refine (rreplay_any g HC.out l _ _ _ (HG.out.ext hB4) (HL.out.ext hB4)).mono ?_
    rintro e W5 ⟨⟨rv, rfl, hrv⟩, hb⟩
    clear f0_0 f0_1 f0_2 f0_3
    have hB5 : Below w.heap.size w W5 := hB4.trans (hb.mono hB4.size)
    have X0 := X0.ext hb
    have HUU := Lib.hid (HUU.out.ext hb)
    clear hb hB4
    clear hrv
    by_cases hp : (playR g l).2 = 0
    case neg =>
      have hq : ((playR g l).2 == 0) = false := by simpa using hp
      have CR := Lib.hid (fun W h => rank_bad2 g HOK.out l hp _ _ W (HG.out.ext (w' := W) h) (HL.out.ext h))
      clear hp
      generalize (playR g l).2 = ce at *
      have f0_0 := X0.cell 0
      have f0_1 := X0.cell 1
      have f0_2 := X0.cell 2
      have f0_3 := X0.cell 3
      simp only [List.getElem?_toArray, List.getElem?_cons_succ, List.getElem?_cons_zero] at f0_0 f0_1 f0_2 f0_3
      go_wp2_with fail
      refine (CN.out _ hB5).mono ?_
      rintro e W6 ⟨rfl, hb⟩
      clear f0_0 f0_1 f0_2 f0_3
      have hB6 : Below w.heap.size w W6 := hB5.trans (hb.mono hB5.size)
      have X0 := X0.ext hb
      have HUU := Lib.hid (HUU.out.ext hb)
      clear hb hB5
      go_wp2_with fail
      refine (error_yes (1) _ (HE.out.ext hB6)).mono ?_
      rintro e W7 ⟨rfl, hb⟩
      have hB7 : Below w.heap.size w W7 := hB6.trans (hb.mono hB6.size)
      have X0 := X0.ext hb
      have HUU := Lib.hid (HUU.out.ext hb)
      clear hb hB6
      go_wp2_with fail
      refine (ints_same _ _ ([]) W7 (ints_nil _) (ints_nil _)).mono ?_
      rintro e Wi ⟨rfl, nn, rfl⟩
      have hb : Below W7.heap.size W7 (W7.drewN nn) := by repeat (first | with_reducible assumption | with_reducible exact Below.refl _ _ | with_reducible apply Below.drew | (with_reducible refine Below.alloc ?_ (by first | omega | (simp only [World.size_alloc, size_setCell, size_drew, size_drewN]; omega) | (dsimp only; omega) | (simp only [World.size_alloc, size_setCell, size_drew, size_drewN]; dsimp only; omega)) _) | (with_reducible refine Below.setCell ?_ (by first | omega | (simp only [World.size_alloc, size_setCell, size_drew, size_drewN]; omega) | (dsimp only; omega) | (simp only [World.size_alloc, size_setCell, size_drew, size_drewN]; dsimp only; omega)) _) | (with_reducible apply below_drewN))
      generalize W7.drewN nn = WI7 at *
      have hB8 : Below w.heap.size w WI7 := hB7.trans (hb.mono hB7.size)
      have X0 := X0.ext hb
      have HUU := Lib.hid (HUU.out.ext hb)
      clear hb hB7
      have f0_0 := X0.cell 0
      have f0_1 := X0.cell 1
      have f0_2 := X0.cell 2
      have f0_3 := X0.cell 3
      simp only [List.getElem?_toArray, List.getElem?_cons_succ, List.getElem?_cons_zero] at f0_0 f0_1 f0_2 f0_3
      go_wp2_with fail
      refine (CR.out _ hB8).mono ?_
      rintro e W9 ⟨rfl, hb⟩
      clear f0_0 f0_1 f0_2 f0_3
      have hB9 : Below w.heap.size w W9 := hB8.trans (hb.mono hB8.size)
      have X0 := X0.ext hb
      have HUU := Lib.hid (HUU.out.ext hb)
      clear hb hB8
      go_wp2_with fail
      refine (error_yes (ce) _ (HE.out.ext hB9)).mono ?_
      rintro e W10 ⟨rfl, hb⟩
      have hB10 : Below w.heap.size w W10 := hB9.trans (hb.mono hB9.size)
      have X0 := X0.ext hb
      have HUU := Lib.hid (HUU.out.ext hb)
      clear hb hB9
      go_wp2_with fail
      go_ret
      exact ⟨by simp, hB10⟩
    rw [hp]
    obtain ⟨m0, hm0, hmat, hmlt, hmn⟩ := GT.first_at HOK.out hp
    rw [← HNN.out] at hm0
    have HMN := Lib.hid hmn
    have HMA := Lib.hid hmat
    have HML := Lib.hid hmlt
    have CR := Lib.hid (fun W h => rank_any g HOK.out m0 l HMN.out _ _ W (HG.out.ext (w' := W) h) (HL.out.ext h))
    clear hp hmat hmlt hmn
    go_wp2_with fail
    go_loopw [14] (fun i wr => ∃ j : Nat, j ≤ m0 ∧ i = .int .i64 j ∧ Below W5.heap.size W5 wr) (fun i _ => m0 + 1 - (intOf i).toNat)
    case atStart => exact ⟨0, by omega, rfl, Below.refl _ _⟩
    case round =>
      obtain ⟨j, hj, rfl, hbr⟩ := hrel
      have q0 : (0 : Int) ≤ (j : Int) := by omega
      have q1 : (j : Int) < (N : Int) := by omega
      have hjN : j < (GT.tps g).length := by rw [← HNN.out]; omega
      obtain ⟨hub1, hus⟩ := (HUU.out.ext hbr)
      obtain ⟨ma, mn, mc, hmv, hmR⟩ := hus j hjN
      have HMV := Lib.hid hmR
      clear hus hmR
      have hBr := hB5.trans (hbr.mono hB5.size)
      go_wp2_with fail
      refine (ints_any _ _ _ l _ HMV.out (HL.out.ext hBr)).mono ?_
      rintro e Wq ⟨rfl, nn, rfl⟩
      by_cases hlt : j < m0
      · have hne : decide ((GT.tps g)[j] = l) = false := decide_eq_false (HML.out j hlt)
        rw [hne]
        clear hmv
        go_wp2_with fail
        exact ⟨⟨j + 1, by omega, by go_num, by repeat (first | with_reducible assumption | with_reducible exact Below.refl _ _ | with_reducible apply Below.drew | (with_reducible refine Below.alloc ?_ (by first | omega | (simp only [World.size_alloc, size_setCell, size_drew, size_drewN]; omega) | (dsimp only; omega) | (simp only [World.size_alloc, size_setCell, size_drew, size_drewN]; dsimp only; omega)) _) | (with_reducible refine Below.setCell ?_ (by first | omega | (simp only [World.size_alloc, size_setCell, size_drew, size_drewN]; omega) | (dsimp only; omega) | (simp only [World.size_alloc, size_setCell, size_drew, size_drewN]; dsimp only; omega)) _) | (with_reducible apply below_drewN))⟩, by simp [intOf]; omega⟩
      have hjm : j = m0 := by omega
      subst hjm
      have hye : decide ((GT.tps g)[j] = l) = true := decide_eq_true HMA.out
      rw [hye]
      have hb : Below W5.heap.size W5 (wr.drewN nn) := by repeat (first | with_reducible assumption | with_reducible exact Below.refl _ _ | with_reducible apply Below.drew | (with_reducible refine Below.alloc ?_ (by first | omega | (simp only [World.size_alloc, size_setCell, size_drew, size_drewN]; omega) | (dsimp only; omega) | (simp only [World.size_alloc, size_setCell, size_drew, size_drewN]; dsimp only; omega)) _) | (with_reducible refine Below.setCell ?_ (by first | omega | (simp only [World.size_alloc, size_setCell, size_drew, size_drewN]; omega) | (dsimp only; omega) | (simp only [World.size_alloc, size_setCell, size_drew, size_drewN]; dsimp only; omega)) _) | (with_reducible apply below_drewN))
      clear hmv hye hbr hBr
      generalize wr.drewN nn = WL at *
      have hB6 : Below w.heap.size w WL := hB5.trans (hb.mono hB5.size)
      have X0 := X0.ext hb
      have HUU := Lib.hid (HUU.out.ext hb)
      clear hb hB5
      have f0_0 := X0.cell 0
      have f0_1 := X0.cell 1
      have f0_2 := X0.cell 2
      have f0_3 := X0.cell 3
      simp only [List.getElem?_toArray, List.getElem?_cons_succ, List.getElem?_cons_zero] at f0_0 f0_1 f0_2 f0_3
      go_wp2_with fail
      refine (CN.out _ hB6).mono ?_
      rintro e W7 ⟨rfl, hb⟩
      clear f0_0 f0_1 f0_2 f0_3
      have hB7 : Below w.heap.size w W7 := hB6.trans (hb.mono hB6.size)
      have X0 := X0.ext hb
      have HUU := Lib.hid (HUU.out.ext hb)
      clear hb hB6
      go_wp2_with fail
      refine (error_yes (1) _ (HE.out.ext hB7)).mono ?_
      rintro e W8 ⟨rfl, hb⟩
      have hB8 : Below w.heap.size w W8 := hB7.trans (hb.mono hB7.size)
      have X0 := X0.ext hb
      have HUU := Lib.hid (HUU.out.ext hb)
      clear hb hB7
      go_wp2_with fail
      refine (ints_same _ _ ([]) W8 (ints_nil _) (ints_nil _)).mono ?_
      rintro e Wi ⟨rfl, nn, rfl⟩
      have hb : Below W8.heap.size W8 (W8.drewN nn) := by repeat (first | with_reducible assumption | with_reducible exact Below.refl _ _ | with_reducible apply Below.drew | (with_reducible refine Below.alloc ?_ (by first | omega | (simp only [World.size_alloc, size_setCell, size_drew, size_drewN]; omega) | (dsimp only; omega) | (simp only [World.size_alloc, size_setCell, size_drew, size_drewN]; dsimp only; omega)) _) | (with_reducible refine Below.setCell ?_ (by first | omega | (simp only [World.size_alloc, size_setCell, size_drew, size_drewN]; omega) | (dsimp only; omega) | (simp only [World.size_alloc, size_setCell, size_drew, size_drewN]; dsimp only; omega)) _) | (with_reducible apply below_drewN))
      generalize W8.drewN nn = WI8 at *
      have hB9 : Below w.heap.size w WI8 := hB8.trans (hb.mono hB8.size)
      have X0 := X0.ext hb
      have HUU := Lib.hid (HUU.out.ext hb)
      clear hb hB8
      have f0_0 := X0.cell 0
      have f0_1 := X0.cell 1
      have f0_2 := X0.cell 2
      have f0_3 := X0.cell 3
      simp only [List.getElem?_toArray, List.getElem?_cons_succ, List.getElem?_cons_zero] at f0_0 f0_1 f0_2 f0_3
      go_wp2_with fail
      refine (CR.out _ hB9).mono ?_
      rintro e W10 ⟨rfl, hb⟩
      clear f0_0 f0_1 f0_2 f0_3
      have hB10 : Below w.heap.size w W10 := hB9.trans (hb.mono hB9.size)
      have X0 := X0.ext hb
      have HUU := Lib.hid (HUU.out.ext hb)
      clear hb hB9
      go_wp2_with fail
      refine (CE0.out _ (HE.out.ext hB10)).mono ?_
      rintro e W11 ⟨rfl, hb⟩
      have hB11 : Below w.heap.size w W11 := hB10.trans (hb.mono hB10.size)
      have X0 := X0.ext hb
      have HUU := Lib.hid (HUU.out.ext hb)
      clear hb hB10
      go_wp2_with fail
      go_ret
      exact ⟨by simp, hB11⟩
  by_cases i1 : (N : Int) ≤ i
  ·
    have CN := Lib.hid (fun W h => nth_out g HOK.out i (.inr (by rw [HCT.out]; exact i1)) _ W (HG.out.ext (w' := W) h))
    have f0_0 := X0.cell 0
    have f0_1 := X0.cell 1
    have f0_2 := X0.cell 2
    have f0_3 := X0.cell 3
    simp only [List.getElem?_toArray, List.getElem?_cons_succ, List.getElem?_cons_zero] at f0_0 f0_1 f0_2 f0_3
    go_wp2_with fail
    refine (rreplay_any g HC.out l _ _ _ (HG.out.ext hB4) (HL.out.ext hB4)).mono ?_
    rintro e W5 ⟨⟨rv, rfl, hrv⟩, hb⟩
    clear f0_0 f0_1 f0_2 f0_3
    have hB5 : Below w.heap.size w W5 := hB4.trans (hb.mono hB4.size)
    have X0 := X0.ext hb
    have HUU := Lib.hid (HUU.out.ext hb)
    clear hb hB4
    clear hrv
    by_cases hp : (playR g l).2 = 0
    case neg =>
      have hq : ((playR g l).2 == 0) = false := by simpa using hp
      have CR := Lib.hid (fun W h => rank_bad2 g HOK.out l hp _ _ W (HG.out.ext (w' := W) h) (HL.out.ext h))
      clear hp
      generalize (playR g l).2 = ce at *
      have f0_0 := X0.cell 0
      have f0_1 := X0.cell 1
      have f0_2 := X0.cell 2
      have f0_3 := X0.cell 3
      simp only [List.getElem?_toArray, List.getElem?_cons_succ, List.getElem?_cons_zero] at f0_0 f0_1 f0_2 f0_3
      go_wp2_with fail
      refine (CN.out _ hB5).mono ?_
      rintro e W6 ⟨rfl, hb⟩
      clear f0_0 f0_1 f0_2 f0_3
      have hB6 : Below w.heap.size w W6 := hB5.trans (hb.mono hB5.size)
      have X0 := X0.ext hb
      have HUU := Lib.hid (HUU.out.ext hb)
      clear hb hB5
      go_wp2_with fail
      refine (error_yes (1) _ (HE.out.ext hB6)).mono ?_
      rintro e W7 ⟨rfl, hb⟩
      have hB7 : Below w.heap.size w W7 := hB6.trans (hb.mono hB6.size)
      have X0 := X0.ext hb
      have HUU := Lib.hid (HUU.out.ext hb)
      clear hb hB6
      go_wp2_with fail
      refine (ints_same _ _ ([]) W7 (ints_nil _) (ints_nil _)).mono ?_
      rintro e Wi ⟨rfl, nn, rfl⟩
      have hb : Below W7.heap.size W7 (W7.drewN nn) := by repeat (first | with_reducible assumption | with_reducible exact Below.refl _ _ | with_reducible apply Below.drew | (with_reducible refine Below.alloc ?_ (by first | omega | (simp only [World.size_alloc, size_setCell, size_drew, size_drewN]; omega) | (dsimp only; omega) | (simp only [World.size_alloc, size_setCell, size_drew, size_drewN]; dsimp only; omega)) _) | (with_reducible refine Below.setCell ?_ (by first | omega | (simp only [World.size_alloc, size_setCell, size_drew, size_drewN]; omega) | (dsimp only; omega) | (simp only [World.size_alloc, size_setCell, size_drew, size_drewN]; dsimp only; omega)) _) | (with_reducible apply below_drewN))
      generalize W7.drewN nn = WI7 at *
      have hB8 : Below w.heap.size w WI7 := hB7.trans (hb.mono hB7.size)
      have X0 := X0.ext hb
      have HUU := Lib.hid (HUU.out.ext hb)
      clear hb hB7
      have f0_0 := X0.cell 0
      have f0_1 := X0.cell 1
      have f0_2 := X0.cell 2
      have f0_3 := X0.cell 3
      simp only [List.getElem?_toArray, List.getElem?_cons_succ, List.getElem?_cons_zero] at f0_0 f0_1 f0_2 f0_3
      go_wp2_with fail
      refine (CR.out _ hB8).mono ?_
      rintro e W9 ⟨rfl, hb⟩
      clear f0_0 f0_1 f0_2 f0_3
      have hB9 : Below w.heap.size w W9 := hB8.trans (hb.mono hB8.size)
      have X0 := X0.ext hb
      have HUU := Lib.hid (HUU.out.ext hb)
      clear hb hB8
      go_wp2_with fail
      refine (error_yes (ce) _ (HE.out.ext hB9)).mono ?_
      rintro e W10 ⟨rfl, hb⟩
      have hB10 : Below w.heap.size w W10 := hB9.trans (hb.mono hB9.size)
      have X0 := X0.ext hb
      have HUU := Lib.hid (HUU.out.ext hb)
      clear hb hB9
      go_wp2_with fail
      go_ret
      exact ⟨by simp, hB10⟩
    rw [hp]
    obtain ⟨m0, hm0, hmat, hmlt, hmn⟩ := GT.first_at HOK.out hp
    rw [← HNN.out] at hm0
    have HMN := Lib.hid hmn
    have HMA := Lib.hid hmat
    have HML := Lib.hid hmlt
    have CR := Lib.hid (fun W h => rank_any g HOK.out m0 l HMN.out _ _ W (HG.out.ext (w' := W) h) (HL.out.ext h))
    clear hp hmat hmlt hmn
    go_wp2_with fail
    go_loopw [14] (fun i wr => ∃ j : Nat, j ≤ m0 ∧ i = .int .i64 j ∧ Below W5.heap.size W5 wr) (fun i _ => m0 + 1 - (intOf i).toNat)
    case atStart => exact ⟨0, by omega, rfl, Below.refl _ _⟩
    case round =>
      obtain ⟨j, hj, rfl, hbr⟩ := hrel
      have q0 : (0 : Int) ≤ (j : Int) := by omega
      have q1 : (j : Int) < (N : Int) := by omega
      have hjN : j < (GT.tps g).length := by rw [← HNN.out]; omega
      obtain ⟨hub1, hus⟩ := (HUU.out.ext hbr)
      obtain ⟨ma, mn, mc, hmv, hmR⟩ := hus j hjN
      have HMV := Lib.hid hmR
      clear hus hmR
      have hBr := hB5.trans (hbr.mono hB5.size)
      go_wp2_with fail
      refine (ints_any _ _ _ l _ HMV.out (HL.out.ext hBr)).mono ?_
      rintro e Wq ⟨rfl, nn, rfl⟩
      by_cases hlt : j < m0
      · have hne : decide ((GT.tps g)[j] = l) = false := decide_eq_false (HML.out j hlt)
        rw [hne]
        clear hmv
        go_wp2_with fail
        exact ⟨⟨j + 1, by omega, by go_num, by repeat (first | with_reducible assumption | with_reducible exact Below.refl _ _ | with_reducible apply Below.drew | (with_reducible refine Below.alloc ?_ (by first | omega | (simp only [World.size_alloc, size_setCell, size_drew, size_drewN]; omega) | (dsimp only; omega) | (simp only [World.size_alloc, size_setCell, size_drew, size_drewN]; dsimp only; omega)) _) | (with_reducible refine Below.setCell ?_ (by first | omega | (simp only [World.size_alloc, size_setCell, size_drew, size_drewN]; omega) | (dsimp only; omega) | (simp only [World.size_alloc, size_setCell, size_drew, size_drewN]; dsimp only; omega)) _) | (with_reducible apply below_drewN))⟩, by simp [intOf]; omega⟩
      have hjm : j = m0 := by omega
      subst hjm
      have hye : decide ((GT.tps g)[j] = l) = true := decide_eq_true HMA.out
      rw [hye]
      have hb : Below W5.heap.size W5 (wr.drewN nn) := by repeat (first | with_reducible assumption | with_reducible exact Below.refl _ _ | with_reducible apply Below.drew | (with_reducible refine Below.alloc ?_ (by first | omega | (simp only [World.size_alloc, size_setCell, size_drew, size_drewN]; omega) | (dsimp only; omega) | (simp only [World.size_alloc, size_setCell, size_drew, size_drewN]; dsimp only; omega)) _) | (with_reducible refine Below.setCell ?_ (by first | omega | (simp only [World.size_alloc, size_setCell, size_drew, size_drewN]; omega) | (dsimp only; omega) | (simp only [World.size_alloc, size_setCell, size_drew, size_drewN]; dsimp only; omega)) _) | (with_reducible apply below_drewN))
      clear hmv hye hbr hBr
      generalize wr.drewN nn = WL at *
      have hB6 : Below w.heap.size w WL := hB5.trans (hb.mono hB5.size)
      have X0 := X0.ext hb
      have HUU := Lib.hid (HUU.out.ext hb)
      clear hb hB5
      have f0_0 := X0.cell 0
      have f0_1 := X0.cell 1
      have f0_2 := X0.cell 2
      have f0_3 := X0.cell 3
      simp only [List.getElem?_toArray, List.getElem?_cons_succ, List.getElem?_cons_zero] at f0_0 f0_1 f0_2 f0_3
      go_wp2_with fail
      refine (CN.out _ hB6).mono ?_
      rintro e W7 ⟨rfl, hb⟩
      clear f0_0 f0_1 f0_2 f0_3
      have hB7 : Below w.heap.size w W7 := hB6.trans (hb.mono hB6.size)
      have X0 := X0.ext hb
      have HUU := Lib.hid (HUU.out.ext hb)
      clear hb hB6
      go_wp2_with fail
      refine (error_yes (1) _ (HE.out.ext hB7)).mono ?_
      rintro e W8 ⟨rfl, hb⟩
      have hB8 : Below w.heap.size w W8 := hB7.trans (hb.mono hB7.size)
      have X0 := X0.ext hb
      have HUU := Lib.hid (HUU.out.ext hb)
      clear hb hB7
      go_wp2_with fail
      refine (ints_same _ _ ([]) W8 (ints_nil _) (ints_nil _)).mono ?_
      rintro e Wi ⟨rfl, nn, rfl⟩
      have hb : Below W8.heap.size W8 (W8.drewN nn) := by repeat (first | with_reducible assumption | with_reducible exact Below.refl _ _ | with_reducible apply Below.drew | (with_reducible refine Below.alloc ?_ (by first | omega | (simp only [World.size_alloc, size_setCell, size_drew, size_drewN]; omega) | (dsimp only; omega) | (simp only [World.size_alloc, size_setCell, size_drew, size_drewN]; dsimp only; omega)) _) | (with_reducible refine Below.setCell ?_ (by first | omega | (simp only [World.size_alloc, size_setCell, size_drew, size_drewN]; omega) | (dsimp only; omega) | (simp only [World.size_alloc, size_setCell, size_drew, size_drewN]; dsimp only; omega)) _) | (with_reducible apply below_drewN))
      generalize W8.drewN nn = WI8 at *
      have hB9 : Below w.heap.size w WI8 := hB8.trans (hb.mono hB8.size)
      have X0 := X0.ext hb
      have HUU := Lib.hid (HUU.out.ext hb)
      clear hb hB8
      have f0_0 := X0.cell 0
      have f0_1 := X0.cell 1
      have f0_2 := X0.cell 2
      have f0_3 := X0.cell 3
      simp only [List.getElem?_toArray, List.getElem?_cons_succ, List.getElem?_cons_zero] at f0_0 f0_1 f0_2 f0_3
      go_wp2_with fail
      refine (CR.out _ hB9).mono ?_
      rintro e W10 ⟨rfl, hb⟩
      clear f0_0 f0_1 f0_2 f0_3
      have hB10 : Below w.heap.size w W10 := hB9.trans (hb.mono hB9.size)
      have X0 := X0.ext hb
      have HUU := Lib.hid (HUU.out.ext hb)
      clear hb hB9
      go_wp2_with fail
      refine (CE0.out _ (HE.out.ext hB10)).mono ?_
      rintro e W11 ⟨rfl, hb⟩
      have hB11 : Below w.heap.size w W11 := hB10.trans (hb.mono hB10.size)
      have X0 := X0.ext hb
      have HUU := Lib.hid (HUU.out.ext hb)
      clear hb hB10
      go_wp2_with fail
      go_ret
      exact ⟨by simp, hB11⟩
  obtain ⟨im, rfl⟩ := Int.eq_ofNat_of_zero_le (show 0 ≤ i by omega)
  have q0 : (0 : Int) ≤ (im : Int) := by omega
  have q1 : (im : Int) < (N : Int) := by omega
  have q2 : ¬ (N : Int) ≤ (im : Int) := i1
  have hiN : im < (GT.tps g).length := by rw [← HNN.out]; omega
  obtain ⟨hub0, hus⟩ := HUU.out
  obtain ⟨wa, wn, wc, hwv, hwR⟩ := hus im hiN
  have HWT := Lib.hid hwR
  have CN := Lib.hid (fun W h => nth_any g HOK.out im (by omega) (by rw [HCT.out]; exact q1) _ W (HG.out.ext (w' := W) h))
  clear hus hwR
  have f0_0 := X0.cell 0
  have f0_1 := X0.cell 1
  have f0_2 := X0.cell 2
  have f0_3 := X0.cell 3
  simp only [List.getElem?_toArray, List.getElem?_cons_succ, List.getElem?_cons_zero] at f0_0 f0_1 f0_2 f0_3
  go_wp2_with fail
  refine (rreplay_any g HC.out l _ _ _ (HG.out.ext hB4) (HL.out.ext hB4)).mono ?_
  rintro e W5 ⟨⟨rv, rfl, hrv⟩, hb⟩
  clear f0_0 f0_1 f0_2 f0_3
  have hB5 : Below w.heap.size w W5 := hB4.trans (hb.mono hB4.size)
  have X0 := X0.ext hb
  have HUU := Lib.hid (HUU.out.ext hb)
  have HWT := Lib.hid (HWT.out.ext hb)
  clear hb hB4
  clear hrv
  by_cases hp : (playR g l).2 = 0
  case neg =>
    have hq : ((playR g l).2 == 0) = false := by simpa using hp
    have CR := Lib.hid (fun W h => rank_bad2 g HOK.out l hp _ _ W (HG.out.ext (w' := W) h) (HL.out.ext h))
    clear hp
    generalize (playR g l).2 = ce at *
    have f0_0 := X0.cell 0
    have f0_1 := X0.cell 1
    have f0_2 := X0.cell 2
    have f0_3 := X0.cell 3
    simp only [List.getElem?_toArray, List.getElem?_cons_succ, List.getElem?_cons_zero] at f0_0 f0_1 f0_2 f0_3
    go_wp2_with fail
    refine (CN.out _ hB5).mono ?_
    rintro e W6 ⟨⟨u, t, rfl, hu, ht, _, hn⟩, hb⟩
    clear f0_0 f0_1 f0_2 f0_3
    have hB6 : Below w.heap.size w W6 := hB5.trans (hb.mono hB5.size)
    have X0 := X0.ext hb
    have HUU := Lib.hid (HUU.out.ext hb)
    have HWT := Lib.hid (HWT.out.ext hb)
    clear hb hB5
    have hte := GT.NthR.tape (GT.okL_one HOK.out) hn.out (HEN.out.2 im hiN)
    subst hte
    have HUN := Lib.hid (hu.at (in64_of ht))
    clear hu ht hn
    go_wp2_with fail
    refine (CE0.out _ (HE.out.ext hB6)).mono ?_
    rintro e W7 ⟨rfl, hb⟩
    have hB7 : Below w.heap.size w W7 := hB6.trans (hb.mono hB6.size)
    have X0 := X0.ext hb
    have HUU := Lib.hid (HUU.out.ext hb)
    have HWT := Lib.hid (HWT.out.ext hb)
    have HUN := Lib.hid (HUN.out.ext hb)
    clear hb hB6
    go_wp2_with fail
    refine (ints_same _ _ ((GT.tps g)[im]) W7 HUN.out HWT.out).mono ?_
    rintro e Wi ⟨rfl, nn, rfl⟩
    have hb : Below W7.heap.size W7 (W7.drewN nn) := by repeat (first | with_reducible assumption | with_reducible exact Below.refl _ _ | with_reducible apply Below.drew | (with_reducible refine Below.alloc ?_ (by first | omega | (simp only [World.size_alloc, size_setCell, size_drew, size_drewN]; omega) | (dsimp only; omega) | (simp only [World.size_alloc, size_setCell, size_drew, size_drewN]; dsimp only; omega)) _) | (with_reducible refine Below.setCell ?_ (by first | omega | (simp only [World.size_alloc, size_setCell, size_drew, size_drewN]; omega) | (dsimp only; omega) | (simp only [World.size_alloc, size_setCell, size_drew, size_drewN]; dsimp only; omega)) _) | (with_reducible apply below_drewN))
    generalize W7.drewN nn = WI7 at *
    have hB8 : Below w.heap.size w WI7 := hB7.trans (hb.mono hB7.size)
    have X0 := X0.ext hb
    have HUU := Lib.hid (HUU.out.ext hb)
    have HWT := Lib.hid (HWT.out.ext hb)
    have HUN := Lib.hid (HUN.out.ext hb)
    clear hb hB7
    have f0_0 := X0.cell 0
    have f0_1 := X0.cell 1
    have f0_2 := X0.cell 2
    have f0_3 := X0.cell 3
    simp only [List.getElem?_toArray, List.getElem?_cons_succ, List.getElem?_cons_zero] at f0_0 f0_1 f0_2 f0_3
    go_wp2_with fail
    refine (CR.out _ hB8).mono ?_
    rintro e W9 ⟨rfl, hb⟩
    clear f0_0 f0_1 f0_2 f0_3
    have hB9 : Below w.heap.size w W9 := hB8.trans (hb.mono hB8.size)
    have X0 := X0.ext hb
    have HUU := Lib.hid (HUU.out.ext hb)
    have HWT := Lib.hid (HWT.out.ext hb)
    have HUN := Lib.hid (HUN.out.ext hb)
    clear hb hB8
    go_wp2_with fail
    refine (error_yes (ce) _ (HE.out.ext hB9)).mono ?_
    rintro e W10 ⟨rfl, hb⟩
    have hB10 : Below w.heap.size w W10 := hB9.trans (hb.mono hB9.size)
    have X0 := X0.ext hb
    have HUU := Lib.hid (HUU.out.ext hb)
    have HWT := Lib.hid (HWT.out.ext hb)
    have HUN := Lib.hid (HUN.out.ext hb)
    clear hb hB9
    go_wp2_with fail
    go_ret
    exact ⟨by simp, hB10⟩
  rw [hp]
  obtain ⟨m0, hm0, hmat, hmlt, hmn⟩ := GT.first_at HOK.out hp
  rw [← HNN.out] at hm0
  have HMN := Lib.hid hmn
  have HMA := Lib.hid hmat
  have HML := Lib.hid hmlt
  have CR := Lib.hid (fun W h => rank_any g HOK.out m0 l HMN.out _ _ W (HG.out.ext (w' := W) h) (HL.out.ext h))
  clear hp hmat hmlt hmn
  go_wp2_with fail
  go_loopw [14] (fun i wr => ∃ j : Nat, j ≤ m0 ∧ i = .int .i64 j ∧ Below W5.heap.size W5 wr) (fun i _ => m0 + 1 - (intOf i).toNat)
  case atStart => exact ⟨0, by omega, rfl, Below.refl _ _⟩
  case round =>
    obtain ⟨j, hj, rfl, hbr⟩ := hrel
    have q0 : (0 : Int) ≤ (j : Int) := by omega
    have q1 : (j : Int) < (N : Int) := by omega
    have hjN : j < (GT.tps g).length := by rw [← HNN.out]; omega
    obtain ⟨hub1, hus⟩ := (HUU.out.ext hbr)
    obtain ⟨ma, mn, mc, hmv, hmR⟩ := hus j hjN
    have HMV := Lib.hid hmR
    clear hus hmR
    have hBr := hB5.trans (hbr.mono hB5.size)
    go_wp2_with fail
    refine (ints_any _ _ _ l _ HMV.out (HL.out.ext hBr)).mono ?_
    rintro e Wq ⟨rfl, nn, rfl⟩
    by_cases hlt : j < m0
    · have hne : decide ((GT.tps g)[j] = l) = false := decide_eq_false (HML.out j hlt)
      rw [hne]
      clear hmv
      go_wp2_with fail
      exact ⟨⟨j + 1, by omega, by go_num, by repeat (first | with_reducible assumption | with_reducible exact Below.refl _ _ | with_reducible apply Below.drew | (with_reducible refine Below.alloc ?_ (by first | omega | (simp only [World.size_alloc, size_setCell, size_drew, size_drewN]; omega) | (dsimp only; omega) | (simp only [World.size_alloc, size_setCell, size_drew, size_drewN]; dsimp only; omega)) _) | (with_reducible refine Below.setCell ?_ (by first | omega | (simp only [World.size_alloc, size_setCell, size_drew, size_drewN]; omega) | (dsimp only; omega) | (simp only [World.size_alloc, size_setCell, size_drew, size_drewN]; dsimp only; omega)) _) | (with_reducible apply below_drewN))⟩, by simp [intOf]; omega⟩
    have hjm : j = m0 := by omega
    subst hjm
    have hye : decide ((GT.tps g)[j] = l) = true := decide_eq_true HMA.out
    rw [hye]
    have hb : Below W5.heap.size W5 (wr.drewN nn) := by repeat (first | with_reducible assumption | with_reducible exact Below.refl _ _ | with_reducible apply Below.drew | (with_reducible refine Below.alloc ?_ (by first | omega | (simp only [World.size_alloc, size_setCell, size_drew, size_drewN]; omega) | (dsimp only; omega) | (simp only [World.size_alloc, size_setCell, size_drew, size_drewN]; dsimp only; omega)) _) | (with_reducible refine Below.setCell ?_ (by first | omega | (simp only [World.size_alloc, size_setCell, size_drew, size_drewN]; omega) | (dsimp only; omega) | (simp only [World.size_alloc, size_setCell, size_drew, size_drewN]; dsimp only; omega)) _) | (with_reducible apply below_drewN))
    clear hmv hye hbr hBr
    generalize wr.drewN nn = WL at *
    have hB6 : Below w.heap.size w WL := hB5.trans (hb.mono hB5.size)
    have X0 := X0.ext hb
    have HUU := Lib.hid (HUU.out.ext hb)
    have HWT := Lib.hid (HWT.out.ext hb)
    clear hb hB5
    have f0_0 := X0.cell 0
    have f0_1 := X0.cell 1
    have f0_2 := X0.cell 2
    have f0_3 := X0.cell 3
    simp only [List.getElem?_toArray, List.getElem?_cons_succ, List.getElem?_cons_zero] at f0_0 f0_1 f0_2 f0_3
    go_wp2_with fail
    refine (CN.out _ hB6).mono ?_
    rintro e W7 ⟨⟨u, t, rfl, hu, ht, _, hn⟩, hb⟩
    clear f0_0 f0_1 f0_2 f0_3
    have hB7 : Below w.heap.size w W7 := hB6.trans (hb.mono hB6.size)
    have X0 := X0.ext hb
    have HUU := Lib.hid (HUU.out.ext hb)
    have HWT := Lib.hid (HWT.out.ext hb)
    clear hb hB6
    have hte := GT.NthR.tape (GT.okL_one HOK.out) hn.out (HEN.out.2 im hiN)
    subst hte
    have HUN := Lib.hid (hu.at (in64_of ht))
    clear hu ht hn
    go_wp2_with fail
    refine (CE0.out _ (HE.out.ext hB7)).mono ?_
    rintro e W8 ⟨rfl, hb⟩
    have hB8 : Below w.heap.size w W8 := hB7.trans (hb.mono hB7.size)
    have X0 := X0.ext hb
    have HUU := Lib.hid (HUU.out.ext hb)
    have HWT := Lib.hid (HWT.out.ext hb)
    have HUN := Lib.hid (HUN.out.ext hb)
    clear hb hB7
    go_wp2_with fail
    refine (ints_same _ _ ((GT.tps g)[im]) W8 HUN.out HWT.out).mono ?_
    rintro e Wi ⟨rfl, nn, rfl⟩
    have hb : Below W8.heap.size W8 (W8.drewN nn) := by repeat (first | with_reducible assumption | with_reducible exact Below.refl _ _ | with_reducible apply Below.drew | (with_reducible refine Below.alloc ?_ (by first | omega | (simp only [World.size_alloc, size_setCell, size_drew, size_drewN]; omega) | (dsimp only; omega) | (simp only [World.size_alloc, size_setCell, size_drew, size_drewN]; dsimp only; omega)) _) | (with_reducible refine Below.setCell ?_ (by first | omega | (simp only [World.size_alloc, size_setCell, size_drew, size_drewN]; omega) | (dsimp only; omega) | (simp only [World.size_alloc, size_setCell, size_drew, size_drewN]; dsimp only; omega)) _) | (with_reducible apply below_drewN))
    generalize W8.drewN nn = WI8 at *
    have hB9 : Below w.heap.size w WI8 := hB8.trans (hb.mono hB8.size)
    have X0 := X0.ext hb
    have HUU := Lib.hid (HUU.out.ext hb)
    have HWT := Lib.hid (HWT.out.ext hb)
    have HUN := Lib.hid (HUN.out.ext hb)
    clear hb hB8
    have f0_0 := X0.cell 0
    have f0_1 := X0.cell 1
    have f0_2 := X0.cell 2
    have f0_3 := X0.cell 3
    simp only [List.getElem?_toArray, List.getElem?_cons_succ, List.getElem?_cons_zero] at f0_0 f0_1 f0_2 f0_3
    go_wp2_with fail
    refine (CR.out _ hB9).mono ?_
    rintro e W10 ⟨rfl, hb⟩
    clear f0_0 f0_1 f0_2 f0_3
    have hB10 : Below w.heap.size w W10 := hB9.trans (hb.mono hB9.size)
    have X0 := X0.ext hb
    have HUU := Lib.hid (HUU.out.ext hb)
    have HWT := Lib.hid (HWT.out.ext hb)
    have HUN := Lib.hid (HUN.out.ext hb)
    clear hb hB9
    go_wp2_with fail
    refine (CE0.out _ (HE.out.ext hB10)).mono ?_
    rintro e W11 ⟨rfl, hb⟩
    have hB11 : Below w.heap.size w W11 := hB10.trans (hb.mono hB10.size)
    have X0 := X0.ext hb
    have HUU := Lib.hid (HUU.out.ext hb)
    have HWT := Lib.hid (HWT.out.ext hb)
    have HUN := Lib.hid (HUN.out.ext hb)
    clear hb hB10
    go_wp2_with fail
    go_ret
    exact ⟨by simp, hB11⟩
end Go.Proofs.YtbfnlaplhgknaaaDoor
