/- The walks through the document's answers on what is drawn: the most that is asked, a tape by chance. -/
import Derived.Test.YtibmnifenfingaaGreatDoorRF12
import Derived.Test.YtibmnifenfingaaGreatDoorPTrace
import Derived.Test.YtibmnifenfingaaGreatDoorRF1
import Derived.Test.YtibmnifenfingaaGreatDoorRSE
namespace Go.Proofs.YtibmnifenfingaaGreatDoor
set_option maxRecDepth 100000
open Go.RowKit
set_option linter.unusedSimpArgs false
set_option linter.unusedVariables false
set_option maxHeartbeats 2000000 in
theorem rmost_any (g : GT) (hc : GT.check g = 0) (P : List Int) (n : Nat) (hn : Hid (n = P.length)) (hn2 : n ≤ 2000000) (gv : Value) (lad : Option Addr) (lcap : Nat) (w : World) (hg : GenAt w gv g) (hl : IntsAt w (.slice lad n lcap) P) (h64 : ∀ x ∈ P, In64 x) :
    Calls Tryz.prog 41 #[gv, .slice lad n lcap, .int .i64 (n : Nat)] w fun e w' => e = .returned (.int .i64 (mostR g P)) ∧ Below w.heap.size w w' := by
  have HL := Lib.hid hl
  have HG := Lib.hid hg
  have hcap : n ≤ lcap := by
    obtain ⟨ad', cap', e, h1, _⟩ := hl.form
    simp only [Value.slice.injEq] at e
    omega
  have hcap2 : (n : Int) ≤ (lcap : Int) := by omega
  have hP : P.length ≤ 2000000 := by have := hn.out; omega
  obtain ⟨k, a, b, sn, ad, cap, rfl⟩ := hg.shape
  have HCM := Lib.hid (fun (v : Value) W (h : Below w.heap.size w W) (hv : IntsAt W v (P ++ [1001])) => rmend_any g hc (P ++ [1001]) _ v W (HG.out.ext h) hv)
  have HM : Hid (mostR g P = if n < (mendR g (P ++ [1001])).length then (mendR g (P ++ [1001])).getD n 0 else -1) := by show _ = _; rw [hn.out]; rfl
  have HN : Hid (∀ x ∈ P ++ [1001], In64 x) := by
    intro x hx
    rcases List.mem_append.1 hx with h | h
    · exact h64 x h
    · simp only [List.mem_singleton] at h
      subst h
      exact ⟨by decide, by decide⟩
  generalize mendR g (P ++ [1001]) = M at *
  clear hg hl h64 hn
  go_enter Tryz.func41, Tryz.ntmps41
  go_upto_region 1 with (fail)
  generalize hW : w.alloc (.cells #[.int .i64 k, .int .i64 a, .int .i64 b, .slice ad sn cap] 24) = W0
  have hB0 : Below w.heap.size w W0 := by rw [← hW]; repeat (first | with_reducible assumption | with_reducible exact Below.refl _ _ | with_reducible apply Below.drew | (with_reducible refine Below.alloc ?_ (by first | omega | (simp only [zA, zS, zD, zN]; omega) | (dsimp only; omega) | (simp only [zA, zS, zD, zN]; dsimp only; omega)) _) | (with_reducible refine Below.setCell ?_ (by first | omega | (simp only [zA, zS, zD, zN]; omega) | (dsimp only; omega) | (simp only [zA, zS, zD, zN]; dsimp only; omega)) _) | (with_reducible apply below_drewN))
  have x0 : Blk W0 w.heap.size #[.int .i64 k, .int .i64 a, .int .i64 b, .slice ad sn cap] 24 := by rw [← hW]; exact Blk.new w _ _
  clear hW
  have IT := Lib.hid (HL.out.ext hB0)
  go_upto_region 2 with (first | (at_builtin; refine append_ints (o := ⟨some 13, _, _, _, _, _⟩) rfl _ _ rfl rfl (OwnInts.lit _ W0.heap.size [] (Nat.le_refl _) (by decide)) rfl (IT.out.ext ((Below.refl _ _).alloc (Nat.le_refl _) _)) (by simp only [List.length_nil]; omega) (by simp) ?_; intro v5 w5 ho5 hg5 _; have hb5 := grown_lit hg5; have hz5 := hb5.size; rw [List.nil_append] at ho5; clear hg5) | (at_builtin; refine append_int1 (v := v5) (xs := P) (o := ⟨some 15, _, _, _, _, _⟩) rfl _ _ rfl rfl (ho5.kept (by repeat (first | with_reducible assumption | with_reducible exact Below.refl _ _ | with_reducible apply Below.drew | (with_reducible refine Below.alloc ?_ (by first | omega | (simp only [zA, zS, zD, zN]; omega) | (dsimp only; omega) | (simp only [zA, zS, zD, zN]; dsimp only; omega)) _) | (with_reducible refine Below.setCell ?_ (by first | omega | (simp only [zA, zS, zD, zN]; omega) | (dsimp only; omega) | (simp only [zA, zS, zD, zN]; dsimp only; omega)) _) | (with_reducible apply below_drewN)))) rfl (Blk.new _ _ _) (by omega) (by simp; omega) ?_; intro gi capi w6 ho6 hg6 hat6 hlt6; have hlo5 := World.ownsRow.lt ho5; have hb6 : Below W0.heap.size W0 w6 := (hb5.alloc (by omega) _).grown hg6 (by simp; omega) (fun k hk => (hlo5 k hk).1); have y0 := x0.ext hb6))
  have hB6 : Below w.heap.size w w6 := hB0.trans (hb6.mono hB0.size)
  have HO6 := Lib.hid (ho6.at HN.out)
  clear ho6 hg6 hat6 hlo5 ho5
  have g0 := y0.cell 0
  have g1 := y0.cell 1
  have g2 := y0.cell 2
  have g3 := y0.cell 3
  simp only [List.getElem?_toArray, List.getElem?_cons_succ, List.getElem?_cons_zero] at g0 g1 g2 g3
  go_wp2_with fail
  refine (HCM.out _ _ hB6 HO6.out).mono ?_
  rintro e w7 ⟨⟨mv, rfl, hmv⟩, hb⟩
  have hB7 : Below w.heap.size w w7 := hB6.trans (hb.mono hB6.size)
  obtain ⟨mad, mcap, rfl, hm1, hm2, hm3, hmc⟩ := hmv.at.form
  have HMC := Lib.hid hmc
  clear hmv hmc hb hm1 hm2 hm3 g0 g1 g2 g3
  by_cases hlt : n < M.length
  · have hlt2 : ¬ (M.length : Int) ≤ (n : Int) := by omega
    have hlt4 : ¬ M.length ≤ n := by omega
    have hlt3 : (n : Int) < (M.length : Int) := by omega
    have p0 : (0 : Int) ≤ (n : Int) := by omega
    have HX : Hid (mostR g P = M.getD n 0) := by have := HM.out; rw [if_pos hlt] at this; exact this
    obtain ⟨mb, moff, rfl, hmb, hcc⟩ := HMC.out (by omega)
    have cj := hcc n hlt
    clear hcc HMC HM
    generalize M.getD n 0 = y at *
    go_wp2_with fail
    go_ret
    exact ⟨by rw [HX.out]; rfl, hB7⟩
  · have hlt2 : (M.length : Int) ≤ (n : Int) := by omega
    have hlt4 : M.length ≤ n := by omega
    have HX : Hid (mostR g P = -1) := by have := HM.out; rw [if_neg hlt] at this; exact this
    go_wp2_with fail
    go_ret
    exact ⟨by rw [HX.out]; rfl, hB7⟩
/-- How long a slice is. -/
def sLen : Value → Nat
  | .slice _ n _ => n
  | _ => 0
theorem seedAt_lt (sd : Nat × Nat) (h : sd.1 < 18446744073709551616) (j : Nat) : (seedAt sd j).1 < 18446744073709551616 := by
  cases j with
  | zero => exact h
  | succ j => rw [seedAt_step]; exact Nat.mod_lt _ (by decide)
set_option maxHeartbeats 4000000 in
theorem rdraw_any (g : GT) (hc : GT.check g = 0) (gv sv : Value) (w : World) (hg : GenAt w gv g) (sd : Nat × Nat) (hsv : SeedAt sv sd) :
    Calls Tryz.prog 20 #[gv, sv] w fun e w' => (∃ mv, e = .returned mv ∧ IntsS w' (fun b => w.heap.size ≤ b) mv (drawR g sd)) ∧ Below w.heap.size w w' := by
  obtain ⟨rfl, hs1, hs2⟩ := hsv
  obtain ⟨ms, hms1, hms2, hms3, hms4⟩ := draw_asks g hc sd
  have hD := draw_within g hc sd
  have hDl : (drawR g sd).length ≤ 1399680 := by
    obtain ⟨t, ht⟩ := play_drawn g hc sd
    exact (played_fit (by rw [ht])).2.2
  have HG := Lib.hid hg
  have HMS1 := Lib.hid hms1
  have HMS2 := Lib.hid hms2
  have HMS3 := Lib.hid hms3
  have HMS4 := Lib.hid hms4
  have HDW : Hid (∀ n ∈ drawR g sd, In64 n) := fun n hn => by have := hD n hn; exact ⟨by omega, by omega⟩
  obtain ⟨k, a, b, sn, ad, cap, rfl⟩ := hg.shape
  obtain ⟨s0, g0⟩ := sd
  dsimp only at hs1 hs2
  have HS1 := Lib.hid hs1
  clear hg hms1 hms2 hms3 hms4 hD hs1
  generalize hDD : drawR g (s0, g0) = D at *
  obtain ⟨dn, hdn⟩ : ∃ dn, dn = D.length := ⟨_, rfl⟩
  have HDN := Lib.hid hdn
  rw [← hdn] at hDl
  clear hdn
  go_enter Tryz.func20, Tryz.ntmps20
  go_upto_region 2 with (fail)
  generalize hW : (w.alloc (.cells #[.int .i64 k, .int .i64 a, .int .i64 b, .slice ad sn cap] 24)).alloc (.cells #[.int .u64 s0, .int .u64 g0] 57) = W0
  have hB0 : Below w.heap.size w W0 := by rw [← hW]; repeat (first | with_reducible assumption | with_reducible exact Below.refl _ _ | with_reducible apply Below.drew | (with_reducible refine Below.alloc ?_ (by first | omega | (simp only [zA, zS, zD, zN]; omega) | (dsimp only; omega) | (simp only [zA, zS, zD, zN]; dsimp only; omega)) _) | (with_reducible refine Below.setCell ?_ (by first | omega | (simp only [zA, zS, zD, zN]; omega) | (dsimp only; omega) | (simp only [zA, zS, zD, zN]; dsimp only; omega)) _) | (with_reducible apply below_drewN))
  have x0 : Blk W0 w.heap.size #[.int .i64 k, .int .i64 a, .int .i64 b, .slice ad sn cap] 24 := by rw [← hW]; exact (Blk.new w _ _).alloc _
  have x1 : Blk W0 (w.heap.size + 1) #[.int .u64 s0, .int .u64 g0] 57 := by rw [← hW]; simpa using Blk.new (w.alloc (.cells #[.int .i64 k, .int .i64 a, .int .i64 b, .slice ad sn cap] 24)) #[.int .u64 s0, .int .u64 g0] 57
  have hz0 : w.heap.size + 2 ≤ W0.heap.size := by have := x1.lt; omega
  clear hW
  go_wp2_with fail
  go_loopw [5] (fun o wr => ∃ (j : Nat) (s1 g1 : Nat), j ≤ dn ∧ Hid (OwnInts wr W0.heap.size o (D.take j)) ∧ Below w.heap.size w wr ∧ W0.heap.size ≤ wr.heap.size ∧ Blk wr w.heap.size #[.int .i64 k, .int .i64 a, .int .i64 b, .slice ad sn cap] 24 ∧ Blk wr (w.heap.size + 1) #[.int .u64 s1, .int .u64 g1] 57 ∧ Hid (seedAt (s0, g0) j = (s1, g1)) ∧ Hid (sLen o = j)) (fun o _ => dn - sLen o)
  case atStart => exact ⟨0, s0, g0, by omega, OwnInts.nil _ _, hB0, Nat.le_refl _, x0, x1, rfl, rfl⟩
  case round =>
    obtain ⟨j, s1, g1, hj, HO, hbr, hzr, xr0, xr1, HSD, HLN⟩ := hrel
    obtain ⟨T, hT⟩ : ∃ T, T = D.take j := ⟨_, rfl⟩
    have hTl : T.length = j := by rw [hT, List.length_take]; have := HDN.out; omega
    rw [← hT] at HO
    have hT64 : ∀ x ∈ T, In64 x := fun x hx => HDW.out x (List.mem_of_mem_take (hT ▸ hx))
    have hIT := HO.out.at hT64
    obtain ⟨tad, tcap, he, _⟩ := hIT.form
    rw [hTl] at he
    subst he
    have HTE := Lib.hid hT
    have HT64 := Lib.hid hT64
    have CM := Lib.hid (fun W (h : Below wr.heap.size wr W) => rmost_any g hc T j hTl.symm (by omega) _ tad tcap W (HG.out.ext (hbr.trans (h.mono hbr.size))) (hIT.ext h) hT64)
    have HTL := Lib.hid hTl
    have hlw : w.heap.size < wr.heap.size := xr0.lt
    have hlw1 : w.heap.size + 1 < wr.heap.size := xr1.lt
    clear hT64 hIT hTl
    have f0 := xr0.cell 0
    have f1 := xr0.cell 1
    have f2 := xr0.cell 2
    have f3 := xr0.cell 3
    simp only [List.getElem?_toArray, List.getElem?_cons_succ, List.getElem?_cons_zero] at f0 f1 f2 f3
    have h0 := xr1.cell 0
    have h1 := xr1.cell 1
    simp only [List.getElem?_toArray, List.getElem?_cons_succ, List.getElem?_cons_zero] at h0 h1
    by_cases hlt : j < dn
    · obtain ⟨hm1, hm2⟩ := HMS3.out j (by have h1 := HMS1.out; have h2 := HDN.out; omega)
      have hmb := HMS2.out (ms[j]'(by have h1 := HMS1.out; have h2 := HDN.out; omega)) (List.getElem_mem _)
      rw [HSD.out] at hm2
      rw [← hT] at hm1
      generalize ms[j]'(by have h1 := HMS1.out; have h2 := HDN.out; omega) = m at *
      obtain ⟨mn, rfl⟩ := Int.eq_ofNat_of_zero_le hmb.1
      have hm9 : mn ≤ 1000 := by omega
      rw [hm1] at CM
      have e1 : ((mn : Int) + 1).toNat = mn + 1 := by omega
      dsimp only at hm2
      rw [e1] at hm2
      have HDJ := Lib.hid hm2
      have CB : Hid (∀ W, Calls Tryz.prog 42 #[.agg #[.int .u64 s1, .int .u64 g1], .int .i64 ((mn : Int) + 1)] W fun e w' => e = .returned (.int .i64 (PRng.below s1 g1 (mn + 1) : Nat)) ∧ Below W.heap.size W w') := fun W => by
        have := rbelow_any s1 g1 (mn + 1) (by omega) W
        rw [show ((mn + 1 : Nat) : Int) = (mn : Int) + 1 by omega] at this
        exact this
      have CS := Lib.hid (rstep_any s1 g1)
      have q0 : (0 : Int) ≤ (mn : Int) := by omega
      have HSN : Hid (seedAt (s0, g0) (j + 1) = ((s1 + g1) % 18446744073709551616, g1)) := by show _ = _; rw [seedAt_step, HSD.out]
      have HTN : Hid (D.take (j + 1) = T ++ [((PRng.below s1 g1 (mn + 1) : Nat) : Int)]) := by
        have hjd : j < D.length := by have := HDN.out; omega
        show _ = _
        rw [List.take_add_one, ← hT, List.getElem?_eq_getElem hjd, ← HDJ.out]
        simp [List.getD_eq_getElem?_getD, hjd]
      clear hm1 hm2 e1 hmb hT
      generalize (PRng.below s1 g1 (mn + 1) : Nat) = y at *
      generalize (s1 + g1) % 18446744073709551616 = s2 at *
      go_wp2_with fail
      refine (CM.out _ (Below.refl _ _)).mono ?_
      rintro e W1 ⟨rfl, hb1⟩
      have k0 := xr0.ext hb1
      clear f0 f1 f2 f3 h0 h1
      have f0 := k0.cell 0
      have f1 := k0.cell 1
      have f2 := k0.cell 2
      have f3 := k0.cell 3
      simp only [List.getElem?_toArray, List.getElem?_cons_succ, List.getElem?_cons_zero] at f0 f1 f2 f3
      go_wp2_with fail
      refine (CM.out _ hb1).mono ?_
      rintro e W2 ⟨rfl, hb2⟩
      have hb12 : Below wr.heap.size wr W2 := hb1.trans (hb2.mono hb1.size)
      have k1 := xr1.ext hb12
      clear f0 f1 f2 f3 k0
      have h0 := k1.cell 0
      have h1 := k1.cell 1
      simp only [List.getElem?_toArray, List.getElem?_cons_succ, List.getElem?_cons_zero] at h0 h1
      go_wp2_with fail
      refine (CB.out _).mono ?_
      rintro e W3 ⟨rfl, hb3⟩
      have hb13 : Below wr.heap.size wr W3 := hb12.trans (hb3.mono hb12.size)
      have HO3 := Lib.hid (HO.out.kept hb13)
      have n0 := xr0.ext hb13
      have n1 := xr1.ext hb13
      have hz3 := hb13.size
      have hTb : T.length ≤ 1399680 := by have := HTL.out; omega
      clear h0 h1 k1
      go_wp2_with (at_builtin; refine append_int1 (v := .slice tad j tcap) (xs := T) (o := ⟨some 24, _, _, _, _, _⟩) rfl _ _ rfl rfl (HO3.out.kept (by repeat (first | with_reducible assumption | with_reducible exact Below.refl _ _ | with_reducible apply Below.drew | (with_reducible refine Below.alloc ?_ (by first | omega | (simp only [zA, zS, zD, zN]; omega) | (dsimp only; omega) | (simp only [zA, zS, zD, zN]; dsimp only; omega)) _) | (with_reducible refine Below.setCell ?_ (by first | omega | (simp only [zA, zS, zD, zN]; omega) | (dsimp only; omega) | (simp only [zA, zS, zD, zN]; dsimp only; omega)) _) | (with_reducible apply below_drewN)))) rfl (Blk.new _ _ _) (by omega) (by simp; omega) ?_; intro gi capi w6 ho6 hg6 hat6 hlt6; have hlo3 := World.ownsRow.lt HO3.out; have m0 : Blk w6 w.heap.size #[.int .i64 k, .int .i64 a, .int .i64 b, .slice ad sn cap] 24 := (hg6.block _ (by simp; omega) (fun e => by have := hlo3 _ e.symm; omega)).trans (n0.alloc _); have m1 : Blk w6 (w.heap.size + 1) #[.int .u64 s1, .int .u64 g1] 57 := (hg6.block _ (by simp; omega) (fun e => by have := hlo3 _ e.symm; omega)).trans (n1.alloc _); have r0 := m1.cell 0; have r1 := m1.cell 1; simp only [List.getElem?_toArray, List.getElem?_cons_succ, List.getElem?_cons_zero] at r0 r1)
      have hb6 : Below w.heap.size w w6 := ((hbr.trans (hb13.mono hbr.size)).alloc (by omega) _).grown hg6 (by simp; omega) (fun k hk => by have := hlo3 k hk; omega)
      refine (CS.out _).mono ?_
      rintro e W7 ⟨rfl, hb7⟩
      have j0 := m0.ext hb7
      have j1 := m1.ext hb7
      have HO7 := Lib.hid (ho6.kept hb7)
      have hb67 : Below w.heap.size w W7 := hb6.trans (hb7.mono hb6.size)
      have hgi := World.ownsRow.lt ho6
      have hz6 : W0.heap.size ≤ W7.heap.size := by have h1 := hg6.size; have h2 := hb7.size; simp at h1; omega
      clear r0 r1
      have i0 := j1.cell 0
      have i1 := j1.cell 1
      simp only [List.getElem?_toArray, List.getElem?_cons_succ, List.getElem?_cons_zero] at i0 i1
      have u0 := j1.unfrozen 0
      have u1 := j1.unfrozen 1
      clear m0 m1 n0 n1 ho6 hg6 hat6
      go_wp2_with fail
      refine ⟨⟨j + 1, s2, g1, by omega, ?_, (hb67.setCell (by simp) _).setCell (by simp) _, by simp only [size_setCell]; omega, ?_, ?_, HSN, ?_⟩, ?_⟩
      · show OwnInts _ _ _ _
        rw [HTN.out]
        refine row_keep HO7.out (fun x hx hl => ?_)
        have := hgi x hx
        rw [Below.heap_setCell _ _ _ _ (by dsimp only; omega), Below.heap_setCell _ _ _ _ (by dsimp only; omega)]
      · exact (j0.oth _ 0 (by omega) _).oth _ 1 (by omega) _
      · simpa using (j1.set 0 (.int .u64 s2)).set 1 (.int .u64 g1)
      · show T.length + 1 = j + 1
        rw [HTL.out]
      · have h1 := HTL.out
        simp only [sLen]
        omega
    · obtain rfl : j = dn := by omega
      have hTD : T = D := by rw [hT, HDN.out, List.take_length]
      have hm := HMS4.out
      rw [← hTD] at hm
      rw [hm] at CM
      have HTD := Lib.hid hTD
      clear hm hTD hT
      go_wp2_with fail
      refine (CM.out _ (Below.refl _ _)).mono ?_
      rintro e W1 ⟨rfl, hb1⟩
      have hbW : Below w.heap.size w W1 := hbr.trans (hb1.mono hbr.size)
      go_wp2_with fail
      go_ret
      refine ⟨⟨_, rfl, ?_⟩, hbW⟩
      have hs := (HO.out.kept hb1).s HT64.out
      rw [HTD.out] at hs
      exact hs.mono (fun x hx _ => by have := (World.ownsRow.lt HO.out x hx).1; omega)
end Go.Proofs.YtibmnifenfingaaGreatDoor
