/- The walk through the document's answer on what is made of numbers: all generators; played again, mended. -/
import Derived.Test.YtibmnifenfingaaGreatDoorRF10
namespace Go.Proofs.YtibmnifenfingaaGreatDoor
set_option maxRecDepth 100000
open Go.RowKit
set_option linter.unusedSimpArgs false
set_option linter.unusedVariables false
theorem rplayed_all (mend : Bool) (l : List Int) (x : GT) : ∀ d, GT.eachErr x = 0 → (GT.parts x d).2 = true → PlayedIH mend l [x] := by
  induction x using GT.ind with
  | h k a b s ih =>
    intro d he hp y hy
    obtain rfl := List.mem_singleton.1 hy
    intro gv vl vn vad vk vcap tv lv tape q S W hg hl ht hq hn
    have hks := GT.ok_kids he
    obtain ⟨hlen, hd, hpk⟩ := GT.parts_kids hp
    have IH : Hid (PlayedIH mend l s) := fun y hy => ih y hy (d + 1) (hks y hy) (hpk y hy) y (by simp)
    have HKS : Hid (∀ x ∈ s, GT.eachErr x = 0) := hks
    obtain ⟨k', a', b', s', ad, cap, hmk, rfl, hk, ha, hb, hcl, hcm, hs⟩ := hg.form
    obtain ⟨rfl, rfl, rfl, rfl⟩ := GT.mk.inj hmk
    obtain ⟨h64, tad, tcap, rfl, htr⟩ := ht
    have ht : IntsS W S (.slice tad tape.length tcap) tape := ⟨h64, tad, tcap, rfl, htr⟩
    rcases GT.one_cases (GT.ok_one he) with ⟨rfl, h1, h2, h3⟩ | ⟨rfl, h0, h0', h1, h2, h3⟩ | rfl | ⟨rfl, h1, h2, h3⟩ | ⟨rfl, h1⟩
    · have hr : GT.play (stC mend l) (.mk 1 a b s) (tape, q) = .ok (.mk false a [], (tape, q)) := by simp [GT.play]
      rw [hr]
      obtain ⟨lad, lcap, rfl, _⟩ := hl.form
      exact rplayed_1 h2 h3 ⟨_, _, _, rfl⟩ ht
    · simp only [GT.cost, if_true] at hq hn
      exact rplayed_2 (by show _ = _; simp only [GT.play, show ¬ ((2 : Int) = 1) by decide, if_false, if_true]; unfold intR; cases stC mend l (b - a) (tape, q) <;> rfl) hl ht (by omega) (by omega) (by omega) (by omega) h2 h3
    · simp only [GT.cost, show ¬ ((3 : Int) = 2) by decide, if_false, if_true] at hq hn
      exact rplayed_3 (by show _ = _; simp only [GT.play, show ¬ ((3 : Int) = 1) by decide, show ¬ ((3 : Int) = 2) by decide, if_false, if_true]; unfold asList; cases GT.playL (stC mend l) s (tape, q) <;> rfl) hl ht hs rfl (by omega) hq hn IH HKS
    · match s, h1, hs, IH, HKS, hlen, hcl, hq, hn with
      | [y], _, hs, IH, HKS, _, hcl, hq, hn =>
        simp only [GT.cost, GT.costL, show ¬ ((4 : Int) = 2) by decide, show ¬ ((4 : Int) = 3) by decide, if_false, if_true] at hq hn
        refine rplayed_4 (y := y) (by
          show _ = _
          simp only [GT.play, GT.playN, show ¬ ((4 : Int) = 1) by decide, show ¬ ((4 : Int) = 2) by decide, show ¬ ((4 : Int) = 3) by decide, if_false, if_true]
          unfold manyR
          cases stC mend l a (tape, q) with
          | error e => rfl
          | ok r =>
            obtain ⟨c, q1⟩ := r
            simp only
            rw [GT.times_eq]
            unfold asList
            cases GT.playL (stC mend l) (List.replicate c.toNat y) q1 <;> rfl) hl ht hs rfl h2 h3 (by omega) (by omega) IH (HKS.out y (by simp))
    · simp only [GT.cost, show ¬ ((5 : Int) = 2) by decide, show ¬ ((5 : Int) = 3) by decide, show ¬ ((5 : Int) = 4) by decide, if_false, if_true] at hq hn
      exact rplayed_5 (by show _ = _; simp only [GT.play, show ¬ ((5 : Int) = 1) by decide, show ¬ ((5 : Int) = 2) by decide, show ¬ ((5 : Int) = 3) by decide, show ¬ ((5 : Int) = 4) by decide, if_false, if_true]; unfold anyR; cases stC mend l ((s.length : Int) - 1) (tape, q) <;> rfl) hl ht hs rfl (by omega) (by omega) hcl (by omega) (by omega) IH
theorem rplay0 (mend : Bool) (g : GT) (hc : GT.check g = 0) (l : List Int) (gv lv : Value) (W : World) (hg : GenAt W gv g) (hl : IntsAt W lv l) :
    Calls Tryz.prog 66 #[gv, .agg #[.bool false, .int .i64 0, .slice none 0 0, .slice none 0 0, .int .i64 0, .int .i64 0], lv, .bool mend] W (PlaysR W (fun _ => False) (GT.play (stC mend l) g ([], 0))) := by
  have hcost := GT.cost_ok hc
  exact rplayed_all mend l g 0 (GT.check_ok hc) (GT.check_parts hc) g (by simp) gv false 0 none 0 0 (.slice none 0 0) lv [] 0 _ W hg hl ⟨by simp, none, 0, rfl, by simp, by unfold maxLen; omega, fun _ => rfl, fun h => by simp at h⟩ (by omega) (by simp; omega)
/-- A play's choices. -/
theorem fld_play1 (c0 c1 c2 c3 c4 c5 : Value) (w : World) : (Instr.field 110 (.agg #[c0, c1, c2, c3, c4, c5]) 1).run Tryz.prog w = .ok c3 w := by kernel_rfl
set_option maxHeartbeats 1000000 in
theorem rmend_any (g : GT) (hc : GT.check g = 0) (l : List Int) (gv lv : Value) (w : World) (hg : GenAt w gv g) (hl : IntsAt w lv l) :
    Calls Tryz.prog 65 #[gv, lv] w fun e w' => (∃ mv, e = .returned mv ∧ IntsS w' (fun b => w.heap.size ≤ b) mv (mendR g l)) ∧ Below w.heap.size w w' := by
  obtain ⟨t, hpl⟩ := playC_mend g hc l
  have C1 : Hid (∀ W, Below w.heap.size w W → Calls Tryz.prog 66 #[gv, .agg #[.bool false, .int .i64 0, .slice none 0 0, .slice none 0 0, .int .i64 0, .int .i64 0], lv, .bool true] W (PlaysR W (fun _ => False) (.ok (t, (mendR g l, (mendR g l).length))))) := fun W h => by
    have := rplay0 true g hc l gv lv W (hg.ext h) (hl.ext h)
    rw [hpl] at this
    exact this
  obtain ⟨k, a, b, sn, ad, cap, rfl⟩ := hg.shape
  obtain ⟨lad, lcap, rfl, _⟩ := hl.form
  clear hg hl hpl
  generalize mendR g l = M at *
  go_enter Tryz.func65, Tryz.ntmps65
  go_wp2_with fail
  refine (C1.out _ (by repeat (first | with_reducible assumption | with_reducible exact Below.refl _ _ | with_reducible apply Below.drew | (with_reducible refine Below.alloc ?_ (by first | omega | (simp only [zA, zS, zD, zN]; omega) | (dsimp only; omega) | (simp only [zA, zS, zD, zN]; dsimp only; omega)) _) | (with_reducible refine Below.setCell ?_ (by first | omega | (simp only [zA, zS, zD, zN]; omega) | (dsimp only; omega) | (simp only [zA, zS, zD, zN]; dsimp only; omega)) _) | (with_reducible apply below_drewN)))).mono ?_
  rintro e w1 ⟨⟨pv, rfl, pl, pn, pad, pk, pcap, tv, rfl, hv, ht⟩, hb⟩
  have hB1 : Below w.heap.size w w1 := Below.trans (by repeat (first | with_reducible assumption | with_reducible exact Below.refl _ _ | with_reducible apply Below.drew | (with_reducible refine Below.alloc ?_ (by first | omega | (simp only [zA, zS, zD, zN]; omega) | (dsimp only; omega) | (simp only [zA, zS, zD, zN]; dsimp only; omega)) _) | (with_reducible refine Below.setCell ?_ (by first | omega | (simp only [zA, zS, zD, zN]; omega) | (dsimp only; omega) | (simp only [zA, zS, zD, zN]; dsimp only; omega)) _) | (with_reducible apply below_drewN))) (hb.mono (by first | omega | (simp only [zA, zS, zD, zN]; omega) | (dsimp only; omega) | (simp only [zA, zS, zD, zN]; dsimp only; omega)))
  have HT := Lib.hid ht
  obtain ⟨_, tad, tcap, rfl, _⟩ := ht
  have hF := fld_play1
  go_wp2_with fail
  go_ret
  refine ⟨⟨_, rfl, HT.out.mono (fun x hx _ => ?_)⟩, hB1⟩
  rcases hx with hx | hx
  · exact hx.elim
  · simp at hx; omega
/-- What is made of a tape, or what is wrong. -/
theorem playR_C (g : GT) (hc : GT.check g = 0) (l : List Int) : playR g l = match GT.play (stC false l) g ([], 0) with
    | .error e => (zeroV, e)
    | .ok (t, q) => if q.2 < l.length then (zeroV, 3) else (t, 0) := by
  unfold playR
  rw [if_pos hc, playC_play]
  cases GT.play (stC false l) g ([], 0) with
  | error e => rfl
  | ok r => obtain ⟨t, q⟩ := r; rfl
end Go.Proofs.YtibmnifenfingaaGreatDoor
