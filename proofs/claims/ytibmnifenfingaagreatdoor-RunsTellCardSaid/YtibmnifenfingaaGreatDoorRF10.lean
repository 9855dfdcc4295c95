/- The walk through the document's answer on what is made of numbers: lists; all ways. -/
import Derived.Test.YtibmnifenfingaaGreatDoorRF9
namespace Go.Proofs.YtibmnifenfingaaGreatDoor
set_option maxRecDepth 100000
open Go.RowKit
set_option linter.unusedSimpArgs false
set_option linter.unusedVariables false

/-- So far all is well, or it has failed. -/
def PlSt (w WL : World) (B3 : Nat) (S : Nat → Prop) (mend : Bool) (l : List Int) (sl : List GT) (R : Except Int (VT × (List Int × Nat))) (j : Nat) (tv : Value) (at1 er1 : Int) (iv : Value) (wr : World) : Prop :=
  (er1 = 0 ∧ ∃ (tape : List Int) (q : Nat) (SV : Nat → Prop) (cs : List Value) (ts : List VT), at1 = (q : Nat) ∧ PlOk w WL B3 S mend l sl R j tv tape q SV iv cs ts wr) ∨ (er1 ≠ 0 ∧ R = .error er1 ∧ ∃ cs, wr.ownsRow WL.heap.size 45 3 iv j cs)
section
variable {w : World} {a b : Int} {ad : Option Addr} {sn cap : Nat} {vl : Bool} {vn : Int} {vk vcap q : Nat} {vad : Option Addr} {l tape : List Int} {tad : Option Addr} {tcap tn : Nat} {lv : Value} {mend : Bool} {S : Nat → Prop} {s : List GT} {R : Except Int (VT × (List Int × Nat))}
set_option maxHeartbeats 16000000 in
theorem rplayed_3 (HR : Hid (R = asList (GT.playL (stC mend l) s (tape, q)))) (hl : IntsAt w lv l) (ht : IntsS w S (.slice tad tn tcap) tape) (hs : GensAt w ad s) (hsn : Hid (sn = s.length)) (hs1 : sn ≤ 1000) (hq : q + GT.costL s ≤ 1099511627776) (hn : tape.length + GT.costL s ≤ 1099511627776) (IH : Hid (PlayedIH mend l s)) (HKS : Hid (∀ x ∈ s, GT.eachErr x = 0)) : Calls Tryz.prog 66 #[.agg #[.int .i64 3, .int .i64 a, .int .i64 b, .slice ad sn cap], .agg #[.bool vl, .int .i64 vn, .slice vad vk vcap, .slice tad tn tcap, .int .i64 (q : Nat), .int .i64 0], lv, .bool mend] w (PlaysR w S R) := by
  obtain ⟨lad, lcap, rfl, _⟩ := hl.form
  have HT := Lib.hid ht
  have HLL := Lib.hid hl
  have HSS := Lib.hid hs
  obtain ⟨sl, hsls⟩ : ∃ sl, sl = s := ⟨_, rfl⟩
  obtain ⟨sln, hslns⟩ : ∃ sln, sln = sn := ⟨_, rfl⟩
  subst hsls
  subst hslns
  have hsl : Hid (sln = sl.length) := hsn
  have IHL := IH
  clear hl ht hs IH
  go_enter Tryz.func66, Tryz.ntmps66
  go_upto_region 1 with (fail)
  generalize hW : ((w.alloc (.cells #[.int .i64 3, .int .i64 a, .int .i64 b, .slice ad sln cap] 24)).alloc (.cells #[.bool vl, .int .i64 vn, .slice vad vk vcap, .slice tad tn tcap, .int .i64 (q : Nat), .int .i64 0] 110)).alloc (.cells #[.bool false, .int .i64 0, .slice none 0 0, .slice none 0 0, .int .i64 0, .int .i64 0] 110) = W0
  have hB0 : Below w.heap.size w W0 := by rw [← hW]; repeat (first | with_reducible assumption | with_reducible exact Below.refl _ _ | with_reducible apply Below.drew | (with_reducible refine Below.alloc ?_ (by first | omega | (simp only [zA, zS, zD, zN]; omega) | (dsimp only; omega) | (simp only [zA, zS, zD, zN]; dsimp only; omega)) _) | (with_reducible refine Below.setCell ?_ (by first | omega | (simp only [zA, zS, zD, zN]; omega) | (dsimp only; omega) | (simp only [zA, zS, zD, zN]; dsimp only; omega)) _) | (with_reducible apply below_drewN))
  have x0 : Blk W0 w.heap.size #[.int .i64 3, .int .i64 a, .int .i64 b, .slice ad sln cap] 24 := by rw [← hW]; exact ((Blk.new w #[.int .i64 3, .int .i64 a, .int .i64 b, .slice ad sln cap] 24).alloc _).alloc _
  have x1 : Blk W0 (w.heap.size + 1) #[.bool vl, .int .i64 vn, .slice vad vk vcap, .slice tad tn tcap, .int .i64 (q : Nat), .int .i64 0] 110 := by rw [← hW]; exact (show Blk (((w.alloc (.cells #[.int .i64 3, .int .i64 a, .int .i64 b, .slice ad sln cap] 24)).alloc (.cells #[.bool vl, .int .i64 vn, .slice vad vk vcap, .slice tad tn tcap, .int .i64 (q : Nat), .int .i64 0] 110))) (w.heap.size + 1) #[.bool vl, .int .i64 vn, .slice vad vk vcap, .slice tad tn tcap, .int .i64 (q : Nat), .int .i64 0] 110 by simpa using Blk.new (w.alloc (.cells #[.int .i64 3, .int .i64 a, .int .i64 b, .slice ad sln cap] 24)) #[.bool vl, .int .i64 vn, .slice vad vk vcap, .slice tad tn tcap, .int .i64 (q : Nat), .int .i64 0] 110).alloc _
  have x2 : Blk W0 (w.heap.size + 2) #[.bool false, .int .i64 0, .slice none 0 0, .slice none 0 0, .int .i64 0, .int .i64 0] 110 := by rw [← hW]; simpa using Blk.new ((w.alloc (.cells #[.int .i64 3, .int .i64 a, .int .i64 b, .slice ad sln cap] 24)).alloc (.cells #[.bool vl, .int .i64 vn, .slice vad vk vcap, .slice tad tn tcap, .int .i64 (q : Nat), .int .i64 0] 110)) #[.bool false, .int .i64 0, .slice none 0 0, .slice none 0 0, .int .i64 0, .int .i64 0] 110
  have hz0 : w.heap.size + 3 ≤ W0.heap.size := by have := x2.lt; omega
  clear hW
  have g0 := x0.cell 0
  have g1 := x0.cell 1
  have g2 := x0.cell 2
  have g3 := x0.cell 3
  simp only [List.getElem?_toArray, List.getElem?_cons_succ, List.getElem?_cons_zero] at g0 g1 g2 g3
  have f0 := x1.cell 0
  have f1 := x1.cell 1
  have f2 := x1.cell 2
  have f3 := x1.cell 3
  have f4 := x1.cell 4
  have f5 := x1.cell 5
  simp only [List.getElem?_toArray, List.getElem?_cons_succ, List.getElem?_cons_zero] at f0 f1 f2 f3 f4 f5
  have hBP := hB0
  have m1 := x1
  have m2 := x2
  go_upto_region 23 with (fail)
  generalize hWL : W0.alloc (.cells #[.bool true, .int .i64 0, .slice none 0 0] 45) = WL
  obtain ⟨B3, hB3⟩ : ∃ B3, B3 = W0.heap.size := ⟨_, rfl⟩
  rw [← hB3]
  have HB3a : Hid (w.heap.size + 3 ≤ B3) := by show _ ≤ _; omega
  have HB3b : Hid (B3 < WL.heap.size) := by show _ < _; rw [← hWL]; simp; omega
  have HBL : Hid (Below w.heap.size w WL) := by show Below _ _ _; rw [← hWL]; exact hBP.alloc (by omega) _
  have L2 : Hid (Blk WL (w.heap.size + 2) #[.bool false, .int .i64 0, .slice none 0 0, .slice none 0 0, .int .i64 0, .int .i64 0] 110) := by show Blk _ _ _ _; rw [← hWL]; exact m2.alloc _
  have HM0 : Hid (PlM w WL B3 #[.bool vl, .int .i64 vn, .slice vad vk vcap, .slice tad tn tcap, .int .i64 (q : Nat), .int .i64 0] (.slice none 0 0) WL) := ⟨HBL.out, Nat.le_refl _, fun _ _ _ _ => rfl, by rw [← hWL]; exact m1.alloc _, by rw [← hWL, hB3]; exact Blk.new _ _ _⟩
  have HGS : Hid (GsAt w WL (fun x => x < w.heap.size) ad sl) := HSS.out.gs HBL.out
  have HSG : Hid (∀ x, x < w.heap.size → x ≠ w.heap.size + 1 ∧ x ≠ w.heap.size + 2 ∧ x ≠ B3) := fun x hx => ⟨by omega, by omega, by omega⟩
  have HST0 : PlSt w WL B3 S mend l sl R 0 (.slice tad tn tcap) (q : Nat) 0 (.slice none 0 0) WL :=
    Or.inl ⟨rfl, tape, q, fun _ => False, [], [], rfl, ⟨rfl, Items.nil _ _, fun x h => h.elim, IntsS.reads.keep HT.out HBL.out.size (fun x hx hl => ⟨⟨.inl hx, by omega, by omega, by omega, by simp [Value.ownBlock]⟩, HBL.out.block x hl⟩), by simpa using (by omega : q + GT.costL sl ≤ 1099511627776), by simpa using (by omega : tape.length + GT.costL sl ≤ 1099511627776), by rw [HR.out, app_nil]; rfl⟩⟩
  clear hWL hB3 m1 m2 x0 x1 x2 HR HT g0 g1 g2 g3 f0 f1 f2 f3 f4 f5 hBP hB0
  go_wp2_with fail
  go_loopw [13] (fun i wr => ∃ (j : Nat) (vl1 : Bool) (vn1 : Int) (vad1 : Option Addr) (vk1 vcap1 tn1 tc1 : Nat) (tad1 : Option Addr) (at1 er1 : Int) (iv1 : Value), j ≤ sln ∧ i = .int .i64 j ∧ Hid (PlM w WL B3 #[.bool vl1, .int .i64 vn1, .slice vad1 vk1 vcap1, .slice tad1 tn1 tc1, .int .i64 at1, .int .i64 er1] iv1 wr) ∧ PlSt w WL B3 S mend l sl R j (.slice tad1 tn1 tc1) at1 er1 iv1 wr) (fun i _ => sln - (intOf i).toNat)
  case atStart => exact ⟨0, _, _, _, _, _, _, _, _, _, _, _, by omega, rfl, HM0, HST0⟩
  case round =>
    obtain ⟨j, vl1, vn1, vad1, vk1, vcap1, tn1, tc1, tad1, at1, er1, iv1, hj, rfl, HM, HS1⟩ := hrel
    have hzr := HM.out.siz
    have hb3a := HB3a.out
    have hb3b := HB3b.out
    by_cases hlt : j < sln
    · have p0 : (0 : Int) ≤ (j : Int) := by omega
      have p1' : (j : Int) < (sln : Int) := by omega
      have hlt' : j < sl.length := by have := hsl.out; omega
      obtain ⟨bl, off, rfl, hbl, hsb, hcg⟩ := HGS.out.at' (by omega)
      obtain ⟨k2, a2, b2, t2, ad2, cap2, c0', c1', c2', c3', hg2⟩ := hcg j hlt'
      obtain ⟨n1, n2, n3⟩ := HSG.out bl hsb
      have hbk := HM.out.fr bl hbl n1 n3
      have hce : ∀ x, wr.cell? ⟨bl, x, none⟩ = WL.cell? ⟨bl, x, none⟩ := fun x => World.cell?_of_block (a := ⟨bl, x, none⟩) hbk
      have c0 := (hce _).trans c0'
      have c1 := (hce _).trans c1'
      have c2 := (hce _).trans c2'
      have c3 := (hce _).trans c3'
      have hbr : bl < wr.heap.size := by omega
      have HG2 := Lib.hid hg2
      clear hcg c0' c1' c2' c3' hce hbk hg2
      rcases HS1 with ⟨rfl, tapej, qj, SV, cs, ts, rfl, hok⟩ | ⟨her, hRe, cs, hrow⟩
      · have HOK := Lib.hid hok
        have hcl := GT.costL_drop sl j hlt'
        have hbd := hok.bud
        have hbd2 := hok.bud2
        have CK : Hid (∀ W, Below wr.heap.size wr W → Calls Tryz.prog 66 #[.agg #[.int .i64 k2, .int .i64 a2, .int .i64 b2, .slice ad2 t2 cap2], .agg #[.bool vl1, .int .i64 vn1, .slice vad1 vk1 vcap1, .slice tad1 tn1 tc1, .int .i64 (qj : Nat), .int .i64 0], .slice lad l.length lcap, .bool mend] W (PlaysR W (STp w B3 S iv1) (GT.play (stC mend l) sl[j] (tapej, qj)))) := fun W hW =>
          IHL.out _ (List.getElem_mem hlt') _ _ _ _ _ _ _ _ _ _ _ W (HG2.out.ext (HM.out.bel.trans (hW.mono HM.out.bel.size))) (HLL.out.ext (HM.out.bel.trans (hW.mono HM.out.bel.size))) (IntsS.reads.keep hok.ch hW.size (fun x hx hl => ⟨hx, hW.block x hl⟩)) (by omega) (by omega)
        clear hok HG2
        have hpr := HM.out.p
        have f0 := hpr.cell 0
        have f1 := hpr.cell 1
        have f2 := hpr.cell 2
        have f3 := hpr.cell 3
        have f4 := hpr.cell 4
        have f5 := hpr.cell 5
        simp only [List.getElem?_toArray, List.getElem?_cons_succ, List.getElem?_cons_zero] at f0 f1 f2 f3 f4 f5
        go_wp2_with fail
        refine region_mov (S := fun w' => w'.cell? ⟨bl, off + j * 4, none⟩ = some (.int .i64 k2) ∧ w'.cell? ⟨bl, off + j * 4 + 1, none⟩ = some (.int .i64 a2) ∧ w'.cell? ⟨bl, off + j * 4 + 2, none⟩ = some (.int .i64 b2) ∧ w'.cell? ⟨bl, off + j * 4 + 3, none⟩ = some (.slice ad2 t2 cap2) ∧ w'.cell? ⟨w.heap.size + 1, 0, none⟩ = some (.bool vl1) ∧ w'.cell? ⟨w.heap.size + 1, 1, none⟩ = some (.int .i64 vn1) ∧ w'.cell? ⟨w.heap.size + 1, 2, none⟩ = some (.slice vad1 vk1 vcap1) ∧ w'.cell? ⟨w.heap.size + 1, 3, none⟩ = some (.slice tad1 tn1 tc1) ∧ w'.cell? ⟨w.heap.size + 1, 4, none⟩ = some (.int .i64 (qj : Nat)) ∧ w'.cell? ⟨w.heap.size + 1, 5, none⟩ = some (.int .i64 0)) (n := 8) (ms := [(true, 0), (true, 1), (true, 2), (true, 3), (true, 4), (true, 5), (true, 6), (false, 7), (false, 8)]) (hm := by kernel_rfl) (hB := by kernel_rfl) (hQ := fun c a d v w h => by cases d <;> exact h) ?_
        have HS0 : Hid ((fun w' => w'.cell? ⟨bl, off + j * 4, none⟩ = some (.int .i64 k2) ∧ w'.cell? ⟨bl, off + j * 4 + 1, none⟩ = some (.int .i64 a2) ∧ w'.cell? ⟨bl, off + j * 4 + 2, none⟩ = some (.int .i64 b2) ∧ w'.cell? ⟨bl, off + j * 4 + 3, none⟩ = some (.slice ad2 t2 cap2) ∧ w'.cell? ⟨w.heap.size + 1, 0, none⟩ = some (.bool vl1) ∧ w'.cell? ⟨w.heap.size + 1, 1, none⟩ = some (.int .i64 vn1) ∧ w'.cell? ⟨w.heap.size + 1, 2, none⟩ = some (.slice vad1 vk1 vcap1) ∧ w'.cell? ⟨w.heap.size + 1, 3, none⟩ = some (.slice tad1 tn1 tc1) ∧ w'.cell? ⟨w.heap.size + 1, 4, none⟩ = some (.int .i64 (qj : Nat)) ∧ w'.cell? ⟨w.heap.size + 1, 5, none⟩ = some (.int .i64 0)) wr.drew) := ⟨c0, c1, c2, c3, f0, f1, f2, f3, f4, f5⟩
        iterate 7
          rw [mov_take]
          simp only [List.getElem?_toArray, List.getElem?_cons_succ, List.getElem?_cons_zero]
          refine ⟨?_, .inl ⟨by rfl, ?_⟩, HS0.out, ?_⟩
          rotate_left
          · rintro w' ⟨s0, s1, s2, s3, s4, s5, s6, s7, s8, s9⟩
            go_simp
            rfl
          simp only [Act.put, List.setIfInBounds_toArray, List.set_cons_zero, List.set_cons_succ]
        have hWD : Below wr.heap.size wr wr.drew := (Below.refl _ _).drew
        have HWD := Lib.hid hWD
        clear HS0 f0 f1 f2 f3 f4 f5
        have HS : Hid (∀ W', Below wr.heap.size wr W' → (fun w' => w'.cell? ⟨bl, off + j * 4, none⟩ = some (.int .i64 k2) ∧ w'.cell? ⟨bl, off + j * 4 + 1, none⟩ = some (.int .i64 a2) ∧ w'.cell? ⟨bl, off + j * 4 + 2, none⟩ = some (.int .i64 b2) ∧ w'.cell? ⟨bl, off + j * 4 + 3, none⟩ = some (.slice ad2 t2 cap2) ∧ w'.cell? ⟨w.heap.size + 1, 0, none⟩ = some (.bool vl1) ∧ w'.cell? ⟨w.heap.size + 1, 1, none⟩ = some (.int .i64 vn1) ∧ w'.cell? ⟨w.heap.size + 1, 2, none⟩ = some (.slice vad1 vk1 vcap1) ∧ w'.cell? ⟨w.heap.size + 1, 3, none⟩ = some (.slice tad1 tn1 tc1) ∧ w'.cell? ⟨w.heap.size + 1, 4, none⟩ = some (.int .i64 (qj : Nat)) ∧ w'.cell? ⟨w.heap.size + 1, 5, none⟩ = some (.int .i64 0)) W') := fun W' h =>
          ⟨(h.cell (p := ⟨bl, _, none⟩) hbr).trans c0, (h.cell (p := ⟨bl, _, none⟩) hbr).trans c1, (h.cell (p := ⟨bl, _, none⟩) hbr).trans c2, (h.cell (p := ⟨bl, _, none⟩) hbr).trans c3,
            (hpr.ext h).cell 0, (hpr.ext h).cell 1, (hpr.ext h).cell 2, (hpr.ext h).cell 3, (hpr.ext h).cell 4, (hpr.ext h).cell 5⟩
        have hzd : wr.drew.heap.size = wr.heap.size := rfl
        clear c0 c1 c2 c3 hWD
        generalize wr.drew = WD at *
        rw [mov_step]
        simp only [List.getElem?_toArray, List.getElem?_cons_succ, List.getElem?_cons_zero]
        go_wp2_with fail
        refine (CK.out WD HWD.out).mono ?_
        rintro e V he
        obtain ⟨⟨pv, rfl, hP⟩, hbv⟩ := he
        have hb : Below wr.heap.size wr V := HWD.out.trans (hbv.mono (by omega))
        have hsW : ∀ x : Nat, WD.heap.size ≤ x ↔ wr.heap.size ≤ x := fun x => by rw [hzd]
        obtain ⟨l5, n5, ad5, k5, cap5, tad5, tn5, tc5, at5, x5, rfl⟩ := hP.shape
        have HP : Hid (PlayIn V (fun b => wr.heap.size ≤ b) (fun b => STp w B3 S iv1 b ∨ wr.heap.size ≤ b) (.agg #[.bool l5, .int .i64 n5, .slice ad5 k5 cap5, .slice tad5 tn5 tc5, .int .i64 at5, .int .i64 x5]) (GT.play (stC mend l) sl[j] (tapej, qj))) := hP.keep (Nat.le_refl _) (fun x hx _ => ⟨(hsW x).1 hx, rfl⟩) (fun x hx _ => ⟨hx.imp id (hsW x).1, rfl⟩)
        clear hP hbv hsW CK
        have hpv := hpr.ext hb
        have h0 := hpv.cell 0
        have h1 := hpv.cell 1
        have h2 := hpv.cell 2
        have h3 := hpv.cell 3
        have h4 := hpv.cell 4
        have h5 := hpv.cell 5
        simp only [List.getElem?_toArray, List.getElem?_cons_succ, List.getElem?_cons_zero] at h0 h1 h2 h3 h4 h5
        have u0 := hpv.unfrozen 0
        have u1 := hpv.unfrozen 1
        have u2 := hpv.unfrozen 2
        have u3 := hpv.unfrozen 3
        have u4 := hpv.unfrozen 4
        have u5 := hpv.unfrozen 5
        have HS2 := Lib.hid (HS.out V hb)
        clear HS
        go_wp2_with fail
        refine And.intro (fun _ => HS2.out) ?_
        rw [mov_step]
        simp only [List.getElem?_toArray, List.getElem?_cons_succ, List.getElem?_cons_zero]
        go_wp2_with fail
        refine And.intro (fun h => absurd h (by omega)) ?_
        rw [wpMov]
        clear HS2 h0 h1 h2 h3 h4 h5 u0 u1 u2 u3 u4 u5
        generalize hV1 : ((((((V.setCell ⟨w.heap.size + 1, 0, none⟩ (.bool l5)).setCell ⟨w.heap.size + 1, 1, none⟩ (.int .i64 n5)).setCell ⟨w.heap.size + 1, 2, none⟩ (.slice ad5 k5 cap5)).setCell ⟨w.heap.size + 1, 3, none⟩ (.slice tad5 tn5 tc5)).setCell ⟨w.heap.size + 1, 4, none⟩ (.int .i64 at5)).setCell ⟨w.heap.size + 1, 5, none⟩ (.int .i64 x5)) = V1
        have HV1 := Lib.hid hV1
        have p1 : Blk V1 (w.heap.size + 1) #[.bool l5, .int .i64 n5, .slice ad5 k5 cap5, .slice tad5 tn5 tc5, .int .i64 at5, .int .i64 x5] 110 := by rw [← hV1]; exact set6 hpv _ _ _ _ _ _
        have v1 : Blk V1 B3 #[.bool true, .int .i64 0, iv1] 45 := by
          rw [← hV1]
          exact (HM.out.v.ext hb).same (heap_st6 _ _ (by omega) _ _ _ _ _ _)
        have hz1 : V1.heap.size = V.heap.size := by rw [← hV1]; simp only [size_setCell]
        have hf1 : ∀ x, x ≠ w.heap.size + 1 → V1.heap[x]? = V.heap[x]? := fun x hx => by rw [← hV1]; exact heap_st6 _ _ hx _ _ _ _ _ _
        clear hV1
        have hzV := hb.size
        have HRW : Hid (V1.ownsRow WL.heap.size 45 3 iv1 j cs) := row_keep (by have h := HOK.out.items.own; rw [HOK.out.len] at h; exact h) (fun x hx hl => (hf1 x (by have := World.ownsRow.lt (by have h := HOK.out.items.own; rw [HOK.out.len] at h; exact h) x hx; omega)).trans (hb.block x hl))
        have hivl : ∀ x, iv1.ownBlock = some x → WL.heap.size ≤ x ∧ x < wr.heap.size := World.ownsRow.lt (by have h := HOK.out.items.own; rw [HOK.out.len] at h; exact h)
        have HIV := Lib.hid hivl
        have q0 := p1.cell 0
        have q1 := p1.cell 1
        have q2 := p1.cell 2
        have r2 := v1.cell 2
        simp only [List.getElem?_toArray, List.getElem?_cons_succ, List.getElem?_cons_zero] at q0 q1 q2 r2
        obtain ⟨inf, hi0, hi1, hi2, hi3⟩ := info_value
        have HI0 := Lib.hid hi0
        have HI1 := Lib.hid hi1
        have HI2 := Lib.hid hi2
        have HI3 := Lib.hid hi3
        have hV1l : B3 < V1.heap.size := by omega
        have hV1w : WL.heap.size ≤ V1.heap.size := by omega
        have hV1p : w.heap.size + 1 < V1.heap.size := p1.lt
        have HZ1 := Lib.hid hz1
        clear hz1
        clear hi0 hi1 hi2 hi3 hivl
        go_wp2_with (at_builtin; refine wpList_append_lies (V1.alloc (.cells #[.bool l5, .int .i64 n5, .slice ad5 k5 cap5] 45)) (o := ⟨some 117, _, _, _, _, _⟩) rfl _ _ 43 rfl WL.heap.size 45 inf _ 3 40 Tryz.underlying43 HI0.out HI1.out HI2.out HI3.out rfl (by decide) iv1 j cs rfl (row_keep HRW.out (fun x _ hl => Below.heap_alloc V1 _ x hl)) ⟨V1.heap.size, 0, none⟩ 1 1 [.bool l5, .int .i64 n5, .slice ad5 k5 cap5] rfl rfl (World.news_of_block (Blk.new _ _ _)) (by simp [Value.oneCell']) (by decide) (by unfold maxLen; omega) (by omega) (by simp; omega) (V1.alloc (.cells #[.bool l5, .int .i64 n5, .slice ad5 k5 cap5] 45)).heap.size rfl ?_; intro gi capi w6 how hgr hat hgl; have v6 : Blk w6 B3 #[.bool true, .int .i64 0, iv1] 45 := (hgr.block B3 (by simp; omega) (fun e => by have := HIV.out _ e.symm; omega)).trans (v1.alloc _); have y2 := v6.cell 2; have uu2 := v6.unfrozen 2; simp only [List.getElem?_toArray, List.getElem?_cons_succ, List.getElem?_cons_zero] at y2)
        have hgr' := hgr
        rw [← HV1.out] at hgr'
        obtain ⟨hMN, hz6, hf6⟩ := HM.out.next (iv' := .slice (some ⟨gi, 0, none⟩) (j + 1) capi) HB3a.out HB3b.out hb HIV.out hgr' rfl
        have hz1 := HZ1.out
        have HRW2 : Hid ((w6.setCell ⟨B3, 2, none⟩ (.slice (some ⟨gi, 0, none⟩) (j + 1) capi)).ownsRow WL.heap.size 45 3 (.slice (some ⟨gi, 0, none⟩) (j + 1) capi) (j + 1) (cs ++ [.bool l5, .int .i64 n5, .slice ad5 k5 cap5])) := row_keep how (fun x hx hl => Below.heap_setCell _ _ _ _ (by have := World.ownsRow.lt how x hx; dsimp only; omega))
        have hgw : (V1.alloc (.cells #[.bool l5, .int .i64 n5, .slice ad5 k5 cap5] 45)).heap.size = V.heap.size + 1 := by simp; omega
        have hnx := HOK.out.next HB3a.out HB3b.out HM.out.siz HBL.out.size hlt' (HKS.out _ (List.getElem_mem hlt')) hb HP.out how hz6 hf6 hgw (fun x hx h1 => (Below.heap_alloc V1 _ x (by omega)).trans (hf1 x h1)) hgr (by
          rcases hat with e | e
          · exact .inl e.symm
          · exact .inr (by rw [← e]; rfl))
        have HNX := Lib.hid hnx
        have HMN := Lib.hid hMN
        clear hnx hMN hgr hgr' how hat hf6 hf1 hz1 hgw
        go_wp2_with fail
        refine ⟨⟨j + 1, _, _, _, _, _, _, _, _, _, _, _, by omega, by go_num, HMN, ?_⟩, by simp [intOf]; omega⟩
        rcases HNX.out with ⟨e1, tp, qq, SV2, cs2, ts2, e2, h2⟩ | ⟨e1, e2⟩
        · exact Or.inl ⟨e1, tp, qq, SV2, cs2, ts2, e2, h2⟩
        · exact Or.inr ⟨e1, e2, cs ++ [.bool l5, .int .i64 n5, .slice ad5 k5 cap5], HRW2.out⟩
      · have HRO := Lib.hid hrow
        have HNE := Lib.hid her
        have HRE := Lib.hid hRe
        have HCE : Hid (∀ W, Calls Tryz.prog 66 #[.agg #[.int .i64 k2, .int .i64 a2, .int .i64 b2, .slice ad2 t2 cap2], .agg #[.bool vl1, .int .i64 vn1, .slice vad1 vk1 vcap1, .slice tad1 tn1 tc1, .int .i64 at1, .int .i64 er1], .slice lad l.length lcap, .bool mend] W fun e w' => e = .returned (.agg #[.bool vl1, .int .i64 vn1, .slice vad1 vk1 vcap1, .slice tad1 tn1 tc1, .int .i64 at1, .int .i64 er1]) ∧ Below W.heap.size W w') := fun W => rplayed_err her ⟨_, _, _, rfl⟩
        clear hrow her hRe HG2
        have hpr := HM.out.p
        have f0 := hpr.cell 0
        have f1 := hpr.cell 1
        have f2 := hpr.cell 2
        have f3 := hpr.cell 3
        have f4 := hpr.cell 4
        have f5 := hpr.cell 5
        simp only [List.getElem?_toArray, List.getElem?_cons_succ, List.getElem?_cons_zero] at f0 f1 f2 f3 f4 f5
        go_wp2_with fail
        refine region_mov (S := fun w' => w'.cell? ⟨bl, off + j * 4, none⟩ = some (.int .i64 k2) ∧ w'.cell? ⟨bl, off + j * 4 + 1, none⟩ = some (.int .i64 a2) ∧ w'.cell? ⟨bl, off + j * 4 + 2, none⟩ = some (.int .i64 b2) ∧ w'.cell? ⟨bl, off + j * 4 + 3, none⟩ = some (.slice ad2 t2 cap2) ∧ w'.cell? ⟨w.heap.size + 1, 0, none⟩ = some (.bool vl1) ∧ w'.cell? ⟨w.heap.size + 1, 1, none⟩ = some (.int .i64 vn1) ∧ w'.cell? ⟨w.heap.size + 1, 2, none⟩ = some (.slice vad1 vk1 vcap1) ∧ w'.cell? ⟨w.heap.size + 1, 3, none⟩ = some (.slice tad1 tn1 tc1) ∧ w'.cell? ⟨w.heap.size + 1, 4, none⟩ = some (.int .i64 at1) ∧ w'.cell? ⟨w.heap.size + 1, 5, none⟩ = some (.int .i64 er1)) (n := 8) (ms := [(true, 0), (true, 1), (true, 2), (true, 3), (true, 4), (true, 5), (true, 6), (false, 7), (false, 8)]) (hm := by kernel_rfl) (hB := by kernel_rfl) (hQ := fun c a d v w h => by cases d <;> exact h) ?_
        have HS0 : Hid ((fun w' => w'.cell? ⟨bl, off + j * 4, none⟩ = some (.int .i64 k2) ∧ w'.cell? ⟨bl, off + j * 4 + 1, none⟩ = some (.int .i64 a2) ∧ w'.cell? ⟨bl, off + j * 4 + 2, none⟩ = some (.int .i64 b2) ∧ w'.cell? ⟨bl, off + j * 4 + 3, none⟩ = some (.slice ad2 t2 cap2) ∧ w'.cell? ⟨w.heap.size + 1, 0, none⟩ = some (.bool vl1) ∧ w'.cell? ⟨w.heap.size + 1, 1, none⟩ = some (.int .i64 vn1) ∧ w'.cell? ⟨w.heap.size + 1, 2, none⟩ = some (.slice vad1 vk1 vcap1) ∧ w'.cell? ⟨w.heap.size + 1, 3, none⟩ = some (.slice tad1 tn1 tc1) ∧ w'.cell? ⟨w.heap.size + 1, 4, none⟩ = some (.int .i64 at1) ∧ w'.cell? ⟨w.heap.size + 1, 5, none⟩ = some (.int .i64 er1)) wr.drew) := ⟨c0, c1, c2, c3, f0, f1, f2, f3, f4, f5⟩
        iterate 7
          rw [mov_take]
          simp only [List.getElem?_toArray, List.getElem?_cons_succ, List.getElem?_cons_zero]
          refine ⟨?_, .inl ⟨by rfl, ?_⟩, HS0.out, ?_⟩
          rotate_left
          · rintro w' ⟨s0, s1, s2, s3, s4, s5, s6, s7, s8, s9⟩
            go_simp
            rfl
          simp only [Act.put, List.setIfInBounds_toArray, List.set_cons_zero, List.set_cons_succ]
        have hWD : Below wr.heap.size wr wr.drew := (Below.refl _ _).drew
        have HWD := Lib.hid hWD
        clear HS0 f0 f1 f2 f3 f4 f5
        have HS : Hid (∀ W', Below wr.heap.size wr W' → (fun w' => w'.cell? ⟨bl, off + j * 4, none⟩ = some (.int .i64 k2) ∧ w'.cell? ⟨bl, off + j * 4 + 1, none⟩ = some (.int .i64 a2) ∧ w'.cell? ⟨bl, off + j * 4 + 2, none⟩ = some (.int .i64 b2) ∧ w'.cell? ⟨bl, off + j * 4 + 3, none⟩ = some (.slice ad2 t2 cap2) ∧ w'.cell? ⟨w.heap.size + 1, 0, none⟩ = some (.bool vl1) ∧ w'.cell? ⟨w.heap.size + 1, 1, none⟩ = some (.int .i64 vn1) ∧ w'.cell? ⟨w.heap.size + 1, 2, none⟩ = some (.slice vad1 vk1 vcap1) ∧ w'.cell? ⟨w.heap.size + 1, 3, none⟩ = some (.slice tad1 tn1 tc1) ∧ w'.cell? ⟨w.heap.size + 1, 4, none⟩ = some (.int .i64 at1) ∧ w'.cell? ⟨w.heap.size + 1, 5, none⟩ = some (.int .i64 er1)) W') := fun W' h =>
          ⟨(h.cell (p := ⟨bl, _, none⟩) hbr).trans c0, (h.cell (p := ⟨bl, _, none⟩) hbr).trans c1, (h.cell (p := ⟨bl, _, none⟩) hbr).trans c2, (h.cell (p := ⟨bl, _, none⟩) hbr).trans c3,
            (hpr.ext h).cell 0, (hpr.ext h).cell 1, (hpr.ext h).cell 2, (hpr.ext h).cell 3, (hpr.ext h).cell 4, (hpr.ext h).cell 5⟩
        have hzd : wr.drew.heap.size = wr.heap.size := rfl
        clear c0 c1 c2 c3 hWD
        generalize wr.drew = WD at *
        rw [mov_step]
        simp only [List.getElem?_toArray, List.getElem?_cons_succ, List.getElem?_cons_zero]
        go_wp2_with fail
        refine (HCE.out WD).mono ?_
        rintro e V ⟨rfl, hbv⟩
        have hb : Below wr.heap.size wr V := HWD.out.trans (hbv.mono (by omega))
        clear hbv HCE
        have hpv := hpr.ext hb
        have h0 := hpv.cell 0
        have h1 := hpv.cell 1
        have h2 := hpv.cell 2
        have h3 := hpv.cell 3
        have h4 := hpv.cell 4
        have h5 := hpv.cell 5
        simp only [List.getElem?_toArray, List.getElem?_cons_succ, List.getElem?_cons_zero] at h0 h1 h2 h3 h4 h5
        have u0 := hpv.unfrozen 0
        have u1 := hpv.unfrozen 1
        have u2 := hpv.unfrozen 2
        have u3 := hpv.unfrozen 3
        have u4 := hpv.unfrozen 4
        have u5 := hpv.unfrozen 5
        have HS2 := Lib.hid (HS.out V hb)
        clear HS
        go_wp2_with fail
        refine And.intro (fun _ => HS2.out) ?_
        rw [mov_step]
        simp only [List.getElem?_toArray, List.getElem?_cons_succ, List.getElem?_cons_zero]
        go_wp2_with fail
        refine And.intro (fun h => absurd h (by omega)) ?_
        rw [wpMov]
        clear HS2 h0 h1 h2 h3 h4 h5 u0 u1 u2 u3 u4 u5
        generalize hV1 : ((((((V.setCell ⟨w.heap.size + 1, 0, none⟩ (.bool vl1)).setCell ⟨w.heap.size + 1, 1, none⟩ (.int .i64 vn1)).setCell ⟨w.heap.size + 1, 2, none⟩ (.slice vad1 vk1 vcap1)).setCell ⟨w.heap.size + 1, 3, none⟩ (.slice tad1 tn1 tc1)).setCell ⟨w.heap.size + 1, 4, none⟩ (.int .i64 at1)).setCell ⟨w.heap.size + 1, 5, none⟩ (.int .i64 er1)) = V1
        have HV1 := Lib.hid hV1
        have p1 : Blk V1 (w.heap.size + 1) #[.bool vl1, .int .i64 vn1, .slice vad1 vk1 vcap1, .slice tad1 tn1 tc1, .int .i64 at1, .int .i64 er1] 110 := by rw [← hV1]; exact set6 hpv _ _ _ _ _ _
        have v1 : Blk V1 B3 #[.bool true, .int .i64 0, iv1] 45 := by
          rw [← hV1]
          exact (HM.out.v.ext hb).same (heap_st6 _ _ (by omega) _ _ _ _ _ _)
        have hz1 : V1.heap.size = V.heap.size := by rw [← hV1]; simp only [size_setCell]
        have hf1 : ∀ x, x ≠ w.heap.size + 1 → V1.heap[x]? = V.heap[x]? := fun x hx => by rw [← hV1]; exact heap_st6 _ _ hx _ _ _ _ _ _
        clear hV1
        have hzV := hb.size
        have HRW : Hid (V1.ownsRow WL.heap.size 45 3 iv1 j cs) := row_keep HRO.out (fun x hx hl => (hf1 x (by have := World.ownsRow.lt HRO.out x hx; omega)).trans (hb.block x hl))
        have hivl : ∀ x, iv1.ownBlock = some x → WL.heap.size ≤ x ∧ x < wr.heap.size := World.ownsRow.lt HRO.out
        have HIV := Lib.hid hivl
        have q0 := p1.cell 0
        have q1 := p1.cell 1
        have q2 := p1.cell 2
        have r2 := v1.cell 2
        simp only [List.getElem?_toArray, List.getElem?_cons_succ, List.getElem?_cons_zero] at q0 q1 q2 r2
        obtain ⟨inf, hi0, hi1, hi2, hi3⟩ := info_value
        have HI0 := Lib.hid hi0
        have HI1 := Lib.hid hi1
        have HI2 := Lib.hid hi2
        have HI3 := Lib.hid hi3
        have hV1l : B3 < V1.heap.size := by omega
        have hV1w : WL.heap.size ≤ V1.heap.size := by omega
        have hV1p : w.heap.size + 1 < V1.heap.size := p1.lt
        have HZ1 := Lib.hid hz1
        clear hz1
        clear hi0 hi1 hi2 hi3 hivl
        go_wp2_with (at_builtin; refine wpList_append_lies (V1.alloc (.cells #[.bool vl1, .int .i64 vn1, .slice vad1 vk1 vcap1] 45)) (o := ⟨some 117, _, _, _, _, _⟩) rfl _ _ 43 rfl WL.heap.size 45 inf _ 3 40 Tryz.underlying43 HI0.out HI1.out HI2.out HI3.out rfl (by decide) iv1 j cs rfl (row_keep HRW.out (fun x _ hl => Below.heap_alloc V1 _ x hl)) ⟨V1.heap.size, 0, none⟩ 1 1 [.bool vl1, .int .i64 vn1, .slice vad1 vk1 vcap1] rfl rfl (World.news_of_block (Blk.new _ _ _)) (by simp [Value.oneCell']) (by decide) (by unfold maxLen; omega) (by omega) (by simp; omega) (V1.alloc (.cells #[.bool vl1, .int .i64 vn1, .slice vad1 vk1 vcap1] 45)).heap.size rfl ?_; intro gi capi w6 how hgr hat hgl; have v6 : Blk w6 B3 #[.bool true, .int .i64 0, iv1] 45 := (hgr.block B3 (by simp; omega) (fun e => by have := HIV.out _ e.symm; omega)).trans (v1.alloc _); have y2 := v6.cell 2; have uu2 := v6.unfrozen 2; simp only [List.getElem?_toArray, List.getElem?_cons_succ, List.getElem?_cons_zero] at y2)
        have hgr' := hgr
        rw [← HV1.out] at hgr'
        obtain ⟨hMN, hz6, hf6⟩ := HM.out.next (iv' := .slice (some ⟨gi, 0, none⟩) (j + 1) capi) HB3a.out HB3b.out hb HIV.out hgr' rfl
        have HRW2 : Hid ((w6.setCell ⟨B3, 2, none⟩ (.slice (some ⟨gi, 0, none⟩) (j + 1) capi)).ownsRow WL.heap.size 45 3 (.slice (some ⟨gi, 0, none⟩) (j + 1) capi) (j + 1) (cs ++ [.bool vl1, .int .i64 vn1, .slice vad1 vk1 vcap1])) := row_keep how (fun x hx hl => Below.heap_setCell _ _ _ _ (by have := World.ownsRow.lt how x hx; dsimp only; omega))
        have HMN := Lib.hid hMN
        clear hMN hgr hgr' how hat hf6 hf1
        go_wp2_with fail
        exact ⟨⟨j + 1, _, _, _, _, _, _, _, _, _, _, _, by omega, by go_num, HMN, Or.inr ⟨HNE.out, HRE.out, _, HRW2.out⟩⟩, by simp [intOf]; omega⟩
    · have hjl : j = sln := by omega
      rcases HS1 with ⟨rfl, tapej, qj, SV, cs, ts, rfl, hok⟩ | ⟨her, hRe, cs, hrow⟩
      · have HOK := Lib.hid hok
        have HRX : Hid (R = .ok (.mk true 0 ts, (tapej, qj))) := by
          have h := hok.eq
          rw [List.drop_eq_nil_of_le (by have := hsl.out; omega)] at h
          show _ = _
          rw [← h]
          simp [GT.playL, app, asList]
        clear hok hjl
        obtain ⟨adi, capi, rfl⟩ := HOK.out.items.shape
        have hpr := HM.out.p
        have hvr := HM.out.v
        have y2 := L2.out.same (HM.out.fr _ (by omega) (by omega) (by omega))
        have p1' : ¬ (j : Int) < (sln : Int) := by omega
        have hBr := HM.out.bel
        have h0 := hvr.cell 0
        have h1 := hvr.cell 1
        have h2 := hvr.cell 2
        simp only [List.getElem?_toArray, List.getElem?_cons_succ, List.getElem?_cons_zero] at h0 h1 h2
        have d0 := hpr.cell 0
        have d1 := hpr.cell 1
        have d2 := hpr.cell 2
        have d3 := hpr.cell 3
        have d4 := hpr.cell 4
        have d5 := hpr.cell 5
        simp only [List.getElem?_toArray, List.getElem?_cons_succ, List.getElem?_cons_zero] at d0 d1 d2 d3 d4 d5
        have u0 := hpr.unfrozen 0
        have u1 := hpr.unfrozen 1
        have u2 := hpr.unfrozen 2
        have u3 := hpr.unfrozen 3
        have u4 := hpr.unfrozen 4
        have u5 := hpr.unfrozen 5
        go_upto_region 29 with (fail)
        clear d0 d1 d2 d3 d4 d5 u0 u1 u2 u3 u4 u5
        generalize hW : (((wr.setCell ⟨w.heap.size + 1, 0, none⟩ (.bool true)).setCell ⟨w.heap.size + 1, 1, none⟩ (.int .i64 0)).setCell ⟨w.heap.size + 1, 2, none⟩ (.slice adi ts.length capi)) = W1
        have hB1 : Below w.heap.size w W1 := by rw [← hW]; exact ((hBr.setCell (by simp) _).setCell (by simp) _).setCell (by simp) _
        have z1 : Blk W1 (w.heap.size + 1) #[.bool true, .int .i64 0, .slice adi ts.length capi, .slice tad1 tn1 tc1, .int .i64 (qj : Nat), .int .i64 0] 110 := by rw [← hW]; simpa using ((hpr.set 0 (.bool true)).set 1 (.int .i64 0)).set 2 (.slice adi ts.length capi)
        have fr1 : ∀ x, x ≠ w.heap.size + 1 → W1.heap[x]? = wr.heap[x]? := by intro x hx; rw [← hW, Below.heap_setCell _ _ _ _ hx, Below.heap_setCell _ _ _ _ hx, Below.heap_setCell _ _ _ _ hx]
        have z2 : Blk W1 (w.heap.size + 2) #[.bool false, .int .i64 0, .slice none 0 0, .slice none 0 0, .int .i64 0, .int .i64 0] 110 := y2.same (fr1 _ (by omega))
        have hzW1 : W1.heap.size = wr.heap.size := by rw [← hW]; simp only [size_setCell]
        clear hW
        clear h0 h1 h2
        have d0 := z1.cell 0
        have d1 := z1.cell 1
        have d2 := z1.cell 2
        have d3 := z1.cell 3
        have d4 := z1.cell 4
        have d5 := z1.cell 5
        simp only [List.getElem?_toArray, List.getElem?_cons_succ, List.getElem?_cons_zero] at d0 d1 d2 d3 d4 d5
        have e0 := z2.cell 0
        have e1 := z2.cell 1
        have e2 := z2.cell 2
        have e3 := z2.cell 3
        have e4 := z2.cell 4
        have e5 := z2.cell 5
        simp only [List.getElem?_toArray, List.getElem?_cons_succ, List.getElem?_cons_zero] at e0 e1 e2 e3 e4 e5
        have u0 := z2.unfrozen 0
        have u1 := z2.unfrozen 1
        have u2 := z2.unfrozen 2
        have u3 := z2.unfrozen 3
        have u4 := z2.unfrozen 4
        have u5 := z2.unfrozen 5
        go_wp2_with fail
        refine bodyPost_ret (v := .agg #[.bool true, .int .i64 0, .slice adi ts.length capi, .slice tad1 tn1 tc1, .int .i64 (qj : Nat), .int .i64 0]) (by simp [results, Tryz.results66, go_sem, d0, d1, d2, d3, d4, d5, e0, e1, e2, e3, e4, e5, u0, u1, u2, u3, u4, u5]) rfl ?_
        have hBF : Below w.heap.size w ((((((W1.setCell ⟨w.heap.size + 2, 0, none⟩ (.bool true)).setCell ⟨w.heap.size + 2, 1, none⟩ (.int .i64 0)).setCell ⟨w.heap.size + 2, 2, none⟩ (.slice adi ts.length capi)).setCell ⟨w.heap.size + 2, 3, none⟩ (.slice tad1 tn1 tc1)).setCell ⟨w.heap.size + 2, 4, none⟩ (.int .i64 (qj : Nat))).setCell ⟨w.heap.size + 2, 5, none⟩ (.int .i64 0)) := below_st6 hB1 (by omega) _ _ _ _ _ _
        have hKF : ∀ x, x ≠ w.heap.size + 2 → ((((((W1.setCell ⟨w.heap.size + 2, 0, none⟩ (.bool true)).setCell ⟨w.heap.size + 2, 1, none⟩ (.int .i64 0)).setCell ⟨w.heap.size + 2, 2, none⟩ (.slice adi ts.length capi)).setCell ⟨w.heap.size + 2, 3, none⟩ (.slice tad1 tn1 tc1)).setCell ⟨w.heap.size + 2, 4, none⟩ (.int .i64 (qj : Nat))).setCell ⟨w.heap.size + 2, 5, none⟩ (.int .i64 0)).heap[x]? = W1.heap[x]? := fun x hx => heap_st6 _ _ hx _ _ _ _ _ _
        have hZF : ((((((W1.setCell ⟨w.heap.size + 2, 0, none⟩ (.bool true)).setCell ⟨w.heap.size + 2, 1, none⟩ (.int .i64 0)).setCell ⟨w.heap.size + 2, 2, none⟩ (.slice adi ts.length capi)).setCell ⟨w.heap.size + 2, 3, none⟩ (.slice tad1 tn1 tc1)).setCell ⟨w.heap.size + 2, 4, none⟩ (.int .i64 (qj : Nat))).setCell ⟨w.heap.size + 2, 5, none⟩ (.int .i64 0)).heap.size = W1.heap.size := by simp only [size_setCell]
        rw [HRX.out]
        have hall : ∀ x, x ≠ w.heap.size + 1 → x ≠ w.heap.size + 2 → ((((((W1.setCell ⟨w.heap.size + 2, 0, none⟩ (.bool true)).setCell ⟨w.heap.size + 2, 1, none⟩ (.int .i64 0)).setCell ⟨w.heap.size + 2, 2, none⟩ (.slice adi ts.length capi)).setCell ⟨w.heap.size + 2, 3, none⟩ (.slice tad1 tn1 tc1)).setCell ⟨w.heap.size + 2, 4, none⟩ (.int .i64 (qj : Nat))).setCell ⟨w.heap.size + 2, 5, none⟩ (.int .i64 0)).heap[x]? = wr.heap[x]? := fun x h1 h2 => (hKF x h2).trans (fr1 x h1)
        have hival := HOK.out.items.lt
        refine ⟨⟨_, rfl, _, _, _, _, _, _, rfl, HOK.out.items.val.keep (by rw [hZF, hzW1]; exact Nat.le_refl _) (fun x hx hl => ?_), IntsS.reads.keep HOK.out.ch (by rw [hZF, hzW1]; exact Nat.le_refl _) (fun x hx hl => ⟨hx.1, hall x hx.2.1 hx.2.2.1⟩)⟩, hBF⟩
        have hx2 : WL.heap.size ≤ x := by
          rcases hx with hx | hx
          · exact (HOK.out.new x hx).1
          · exact (hival x hx).1
        exact ⟨by have := HBL.out.size; omega, hall x (by omega) (by omega)⟩
      · have HNE := Lib.hid her
        have HRE := Lib.hid hRe
        clear her hRe hjl
        obtain ⟨adi, capi, rfl⟩ := row_shape hrow
        clear hrow
        have hpr := HM.out.p
        have hvr := HM.out.v
        have y2 := L2.out.same (HM.out.fr _ (by omega) (by omega) (by omega))
        have p1' : ¬ (j : Int) < (sln : Int) := by omega
        have hBr := HM.out.bel
        have h0 := hvr.cell 0
        have h1 := hvr.cell 1
        have h2 := hvr.cell 2
        simp only [List.getElem?_toArray, List.getElem?_cons_succ, List.getElem?_cons_zero] at h0 h1 h2
        have d0 := hpr.cell 0
        have d1 := hpr.cell 1
        have d2 := hpr.cell 2
        have d3 := hpr.cell 3
        have d4 := hpr.cell 4
        have d5 := hpr.cell 5
        simp only [List.getElem?_toArray, List.getElem?_cons_succ, List.getElem?_cons_zero] at d0 d1 d2 d3 d4 d5
        have u0 := hpr.unfrozen 0
        have u1 := hpr.unfrozen 1
        have u2 := hpr.unfrozen 2
        have u3 := hpr.unfrozen 3
        have u4 := hpr.unfrozen 4
        have u5 := hpr.unfrozen 5
        go_upto_region 29 with (fail)
        clear d0 d1 d2 d3 d4 d5 u0 u1 u2 u3 u4 u5
        generalize hW : (((wr.setCell ⟨w.heap.size + 1, 0, none⟩ (.bool true)).setCell ⟨w.heap.size + 1, 1, none⟩ (.int .i64 0)).setCell ⟨w.heap.size + 1, 2, none⟩ (.slice adi j capi)) = W1
        have hB1 : Below w.heap.size w W1 := by rw [← hW]; exact ((hBr.setCell (by simp) _).setCell (by simp) _).setCell (by simp) _
        have z1 : Blk W1 (w.heap.size + 1) #[.bool true, .int .i64 0, .slice adi j capi, .slice tad1 tn1 tc1, .int .i64 at1, .int .i64 er1] 110 := by rw [← hW]; simpa using ((hpr.set 0 (.bool true)).set 1 (.int .i64 0)).set 2 (.slice adi j capi)
        have fr1 : ∀ x, x ≠ w.heap.size + 1 → W1.heap[x]? = wr.heap[x]? := by intro x hx; rw [← hW, Below.heap_setCell _ _ _ _ hx, Below.heap_setCell _ _ _ _ hx, Below.heap_setCell _ _ _ _ hx]
        have z2 : Blk W1 (w.heap.size + 2) #[.bool false, .int .i64 0, .slice none 0 0, .slice none 0 0, .int .i64 0, .int .i64 0] 110 := y2.same (fr1 _ (by omega))
        have hzW1 : W1.heap.size = wr.heap.size := by rw [← hW]; simp only [size_setCell]
        clear hW
        clear h0 h1 h2
        have d0 := z1.cell 0
        have d1 := z1.cell 1
        have d2 := z1.cell 2
        have d3 := z1.cell 3
        have d4 := z1.cell 4
        have d5 := z1.cell 5
        simp only [List.getElem?_toArray, List.getElem?_cons_succ, List.getElem?_cons_zero] at d0 d1 d2 d3 d4 d5
        have e0 := z2.cell 0
        have e1 := z2.cell 1
        have e2 := z2.cell 2
        have e3 := z2.cell 3
        have e4 := z2.cell 4
        have e5 := z2.cell 5
        simp only [List.getElem?_toArray, List.getElem?_cons_succ, List.getElem?_cons_zero] at e0 e1 e2 e3 e4 e5
        have u0 := z2.unfrozen 0
        have u1 := z2.unfrozen 1
        have u2 := z2.unfrozen 2
        have u3 := z2.unfrozen 3
        have u4 := z2.unfrozen 4
        have u5 := z2.unfrozen 5
        go_wp2_with fail
        refine bodyPost_ret (v := .agg #[.bool true, .int .i64 0, .slice adi j capi, .slice tad1 tn1 tc1, .int .i64 at1, .int .i64 er1]) (by simp [results, Tryz.results66, go_sem, d0, d1, d2, d3, d4, d5, e0, e1, e2, e3, e4, e5, u0, u1, u2, u3, u4, u5]) rfl ?_
        have hBF : Below w.heap.size w ((((((W1.setCell ⟨w.heap.size + 2, 0, none⟩ (.bool true)).setCell ⟨w.heap.size + 2, 1, none⟩ (.int .i64 0)).setCell ⟨w.heap.size + 2, 2, none⟩ (.slice adi j capi)).setCell ⟨w.heap.size + 2, 3, none⟩ (.slice tad1 tn1 tc1)).setCell ⟨w.heap.size + 2, 4, none⟩ (.int .i64 at1)).setCell ⟨w.heap.size + 2, 5, none⟩ (.int .i64 er1)) := below_st6 hB1 (by omega) _ _ _ _ _ _
        have hKF : ∀ x, x ≠ w.heap.size + 2 → ((((((W1.setCell ⟨w.heap.size + 2, 0, none⟩ (.bool true)).setCell ⟨w.heap.size + 2, 1, none⟩ (.int .i64 0)).setCell ⟨w.heap.size + 2, 2, none⟩ (.slice adi j capi)).setCell ⟨w.heap.size + 2, 3, none⟩ (.slice tad1 tn1 tc1)).setCell ⟨w.heap.size + 2, 4, none⟩ (.int .i64 at1)).setCell ⟨w.heap.size + 2, 5, none⟩ (.int .i64 er1)).heap[x]? = W1.heap[x]? := fun x hx => heap_st6 _ _ hx _ _ _ _ _ _
        have hZF : ((((((W1.setCell ⟨w.heap.size + 2, 0, none⟩ (.bool true)).setCell ⟨w.heap.size + 2, 1, none⟩ (.int .i64 0)).setCell ⟨w.heap.size + 2, 2, none⟩ (.slice adi j capi)).setCell ⟨w.heap.size + 2, 3, none⟩ (.slice tad1 tn1 tc1)).setCell ⟨w.heap.size + 2, 4, none⟩ (.int .i64 at1)).setCell ⟨w.heap.size + 2, 5, none⟩ (.int .i64 er1)).heap.size = W1.heap.size := by simp only [size_setCell]
        rw [HRE.out]
        exact ⟨⟨_, rfl, HNE.out, _, _, _, _, _, _, _, _, _, rfl⟩, hBF⟩
theorem costL_rep (x : GT) (n : Nat) : GT.costL (List.replicate n x) = n * GT.cost x := by
  induction n with
  | zero => simp [GT.costL]
  | succ n ih => rw [List.replicate_succ, GT.costL, ih, Nat.add_mul]; omega
set_option maxHeartbeats 32000000 in
theorem rplayed_4 {y : GT} (HR : Hid (R = manyR mend l y (stC mend l a (tape, q)))) (hl : IntsAt w lv l) (ht : IntsS w S (.slice tad tn tcap) tape) (hs : GensAt w ad [y]) (hsn : sn = 1) (ha0 : 0 ≤ a) (ha5 : a ≤ 5) (hq : q + 1 + 5 * GT.cost y ≤ 1099511627776) (hn : tape.length + 1 + 5 * GT.cost y ≤ 1099511627776) (IH : Hid (PlayedIH mend l [y])) (HKS1 : Hid (GT.eachErr y = 0)) : Calls Tryz.prog 66 #[.agg #[.int .i64 4, .int .i64 a, .int .i64 b, .slice ad sn cap], .agg #[.bool vl, .int .i64 vn, .slice vad vk vcap, .slice tad tn tcap, .int .i64 (q : Nat), .int .i64 0], lv, .bool mend] w (PlaysR w S R) := by
  obtain ⟨lad, lcap, rfl, _⟩ := hl.form
  have HT := Lib.hid ht
  have HLL := Lib.hid hl
  have HSS := Lib.hid hs
  have HM0 : Hid (0 ≤ a) := ha0
  have HM1 : Hid (a ≤ 1000) := by show _ ≤ _; omega
  have p0n : 0 < sn := by omega
  have p0 : (0 : Int) < (sn : Int) := by omega
  have HSN := Lib.hid hsn
  clear hsn
  go_enter Tryz.func66, Tryz.ntmps66
  go_upto_region 1 with (fail)
  generalize hW : ((w.alloc (.cells #[.int .i64 4, .int .i64 a, .int .i64 b, .slice ad sn cap] 24)).alloc (.cells #[.bool vl, .int .i64 vn, .slice vad vk vcap, .slice tad tn tcap, .int .i64 (q : Nat), .int .i64 0] 110)).alloc (.cells #[.bool false, .int .i64 0, .slice none 0 0, .slice none 0 0, .int .i64 0, .int .i64 0] 110) = W0
  have hB0 : Below w.heap.size w W0 := by rw [← hW]; repeat (first | with_reducible assumption | with_reducible exact Below.refl _ _ | with_reducible apply Below.drew | (with_reducible refine Below.alloc ?_ (by first | omega | (simp only [zA, zS, zD, zN]; omega) | (dsimp only; omega) | (simp only [zA, zS, zD, zN]; dsimp only; omega)) _) | (with_reducible refine Below.setCell ?_ (by first | omega | (simp only [zA, zS, zD, zN]; omega) | (dsimp only; omega) | (simp only [zA, zS, zD, zN]; dsimp only; omega)) _) | (with_reducible apply below_drewN))
  have x0 : Blk W0 w.heap.size #[.int .i64 4, .int .i64 a, .int .i64 b, .slice ad sn cap] 24 := by rw [← hW]; exact ((Blk.new w #[.int .i64 4, .int .i64 a, .int .i64 b, .slice ad sn cap] 24).alloc _).alloc _
  have x1 : Blk W0 (w.heap.size + 1) #[.bool vl, .int .i64 vn, .slice vad vk vcap, .slice tad tn tcap, .int .i64 (q : Nat), .int .i64 0] 110 := by rw [← hW]; exact (show Blk (((w.alloc (.cells #[.int .i64 4, .int .i64 a, .int .i64 b, .slice ad sn cap] 24)).alloc (.cells #[.bool vl, .int .i64 vn, .slice vad vk vcap, .slice tad tn tcap, .int .i64 (q : Nat), .int .i64 0] 110))) (w.heap.size + 1) #[.bool vl, .int .i64 vn, .slice vad vk vcap, .slice tad tn tcap, .int .i64 (q : Nat), .int .i64 0] 110 by simpa using Blk.new (w.alloc (.cells #[.int .i64 4, .int .i64 a, .int .i64 b, .slice ad sn cap] 24)) #[.bool vl, .int .i64 vn, .slice vad vk vcap, .slice tad tn tcap, .int .i64 (q : Nat), .int .i64 0] 110).alloc _
  have x2 : Blk W0 (w.heap.size + 2) #[.bool false, .int .i64 0, .slice none 0 0, .slice none 0 0, .int .i64 0, .int .i64 0] 110 := by rw [← hW]; simpa using Blk.new ((w.alloc (.cells #[.int .i64 4, .int .i64 a, .int .i64 b, .slice ad sn cap] 24)).alloc (.cells #[.bool vl, .int .i64 vn, .slice vad vk vcap, .slice tad tn tcap, .int .i64 (q : Nat), .int .i64 0] 110)) #[.bool false, .int .i64 0, .slice none 0 0, .slice none 0 0, .int .i64 0, .int .i64 0] 110
  have hz0 : w.heap.size + 3 ≤ W0.heap.size := by have := x2.lt; omega
  clear hW
  have g0 := x0.cell 0
  have g1 := x0.cell 1
  have g2 := x0.cell 2
  have g3 := x0.cell 3
  simp only [List.getElem?_toArray, List.getElem?_cons_succ, List.getElem?_cons_zero] at g0 g1 g2 g3
  have f0 := x1.cell 0
  have f1 := x1.cell 1
  have f2 := x1.cell 2
  have f3 := x1.cell 3
  have f4 := x1.cell 4
  have f5 := x1.cell 5
  simp only [List.getElem?_toArray, List.getElem?_cons_succ, List.getElem?_cons_zero] at f0 f1 f2 f3 f4 f5
  go_wp2_with fail
  refine (rchoice_any mend (hl.ext hB0) (ht.at.ext hB0) HM0.out HM1.out (by omega) (by omega)).mono ?_
  rintro e W1 he
  clear f0 f1 f2 f3 f4 f5 g0 g1 g2 g3
  generalize hst : stC mend l a (tape, q) = r at *
  have HST := Lib.hid hst
  clear hst hl ht hs
  cases r with
  | error x =>
    obtain ⟨rfl, hb⟩ := he
    have hxn := stC_err HST.out
    have HRX := Lib.hid HR.out
    have hB1 : Below w.heap.size w W1 := hB0.trans (hb.mono hB0.size)
    have y0 := x0.ext hb
    have y1 := x1.ext hb
    have y2 := x2.ext hb
    have hzb := hb.size
    have f0 := y1.cell 0
    have f1 := y1.cell 1
    have f2 := y1.cell 2
    have f3 := y1.cell 3
    have f4 := y1.cell 4
    have f5 := y1.cell 5
    simp only [List.getElem?_toArray, List.getElem?_cons_succ, List.getElem?_cons_zero] at f0 f1 f2 f3 f4 f5
    have u0 := y1.unfrozen 0
    have u1 := y1.unfrozen 1
    have u2 := y1.unfrozen 2
    have u3 := y1.unfrozen 3
    have u4 := y1.unfrozen 4
    have u5 := y1.unfrozen 5
    go_upto_region 17 with (fail)
    clear f0 f1 f2 f3 f4 f5 u0 u1 u2 u3 u4 u5
    generalize hW : ((((((W1.setCell ⟨w.heap.size + 1, 0, none⟩ (.bool vl)).setCell ⟨w.heap.size + 1, 1, none⟩ (.int .i64 vn)).setCell ⟨w.heap.size + 1, 2, none⟩ (.slice vad vk vcap)).setCell ⟨w.heap.size + 1, 3, none⟩ (.slice tad tn tcap)).setCell ⟨w.heap.size + 1, 4, none⟩ (.int .i64 (q : Nat))).setCell ⟨w.heap.size + 1, 5, none⟩ (.int .i64 x)) = W2
    have hB2 : Below w.heap.size w W2 := by rw [← hW]; exact below_st6 hB1 (by omega) _ _ _ _ _ _
    have z1 : Blk W2 (w.heap.size + 1) #[.bool vl, .int .i64 vn, .slice vad vk vcap, .slice tad tn tcap, .int .i64 (q : Nat), .int .i64 x] 110 := by rw [← hW]; exact set6 y1 _ _ _ _ _ _
    have fr2 : ∀ x, x ≠ w.heap.size + 1 → W2.heap[x]? = W1.heap[x]? := by intro x hx; rw [← hW]; exact heap_st6 _ _ hx _ _ _ _ _ _
    have z2 : Blk W2 (w.heap.size + 2) #[.bool false, .int .i64 0, .slice none 0 0, .slice none 0 0, .int .i64 0, .int .i64 0] 110 := y2.same (fr2 _ (by omega))
    have z0 : Blk W2 w.heap.size #[.int .i64 4, .int .i64 a, .int .i64 b, .slice ad sn cap] 24 := y0.same (fr2 _ (by omega))
    have hzW2 : W2.heap.size = W1.heap.size := by rw [← hW]; simp only [size_setCell]
    clear hW
    have hz2 : w.heap.size + 3 ≤ W2.heap.size := by omega
    clear hzW2
    obtain ⟨sln, hsln⟩ : ∃ n : Nat, n = 0 := ⟨0, rfl⟩
    obtain ⟨gad, hgad⟩ : ∃ n : Option Addr, n = none := ⟨none, rfl⟩
    have g0 := z0.cell 0
    have g1 := z0.cell 1
    have g2 := z0.cell 2
    have g3 := z0.cell 3
    simp only [List.getElem?_toArray, List.getElem?_cons_succ, List.getElem?_cons_zero] at g0 g1 g2 g3
    go_wp2_with fail
    go_loopw [10, 11] (fun o i wr => o = .slice gad sln 0 ∧ i = .int .i64 0 ∧ W2 = wr) (fun _ _ _ => 0)
    case atStart => exact ⟨by rw [hsln, hgad], rfl, rfl⟩
    case round =>
      obtain ⟨rfl, rfl, rfl⟩ := hrel
      have hBP := hB2
      have m1 := z1
      have m2 := z2
      go_upto_region 23 with (fail)
      generalize hWL : W2.alloc (.cells #[.bool true, .int .i64 0, .slice none 0 0] 45) = WL
      obtain ⟨B3, hB3⟩ : ∃ B3, B3 = W2.heap.size := ⟨_, rfl⟩
      rw [← hB3]
      have HB3a : Hid (w.heap.size + 3 ≤ B3) := by show _ ≤ _; omega
      have HB3b : Hid (B3 < WL.heap.size) := by show _ < _; rw [← hWL]; simp; omega
      have HBL : Hid (Below w.heap.size w WL) := by show Below _ _ _; rw [← hWL]; exact hBP.alloc (by omega) _
      have L2 : Hid (Blk WL (w.heap.size + 2) #[.bool false, .int .i64 0, .slice none 0 0, .slice none 0 0, .int .i64 0, .int .i64 0] 110) := by show Blk _ _ _ _; rw [← hWL]; exact m2.alloc _
      have HMP : Hid (PlM w WL B3 #[.bool vl, .int .i64 vn, .slice vad vk vcap, .slice tad tn tcap, .int .i64 (q : Nat), .int .i64 x] (.slice none 0 0) WL) := ⟨HBL.out, Nat.le_refl _, fun _ _ _ _ => rfl, by rw [← hWL]; exact m1.alloc _, by rw [← hWL, hB3]; exact Blk.new _ _ _⟩
      obtain ⟨sl, hsle⟩ : ∃ sl : List GT, sl = [] := ⟨[], rfl⟩
      have hsl : Hid (sln = sl.length) := by show _ = _; rw [hsln, hsle]; rfl
      have hs1 : sln ≤ 1000 := by omega
      have HGS : Hid (GsAt w WL (fun x => x < w.heap.size) gad sl) := by show GsAt _ _ _ _ _; rw [hsle]; exact GsAt.nil _ _ _ _
      have HSG : Hid (∀ x, x < w.heap.size → x ≠ w.heap.size + 1 ∧ x ≠ w.heap.size + 2 ∧ x ≠ B3) := fun x hx => ⟨by omega, by omega, by omega⟩
      have IHL : Hid (PlayedIH mend l sl) := by intro x hx; rw [hsle] at hx; simp at hx
      have HKS : Hid (∀ x ∈ sl, GT.eachErr x = 0) := by intro x hx; rw [hsle] at hx; simp at hx
      have HST0 : PlSt w WL B3 S mend l sl R 0 (.slice tad tn tcap) (q : Nat) x (.slice none 0 0) WL := Or.inr ⟨hxn, HRX.out, [], World.ownsRow_nil _ _ _ _⟩
      clear hWL hB3 m1 m2 z0 z1 z2 fr2 HR HT g0 g1 g2 g3 hBP hB2 hsle hsln hgad IH HKS1 hxn HRX x0 x1 x2 y0 y1 y2 hb HM1 HST
      go_wp2_with fail
      go_loopw [13] (fun i wr => ∃ (j : Nat) (vl1 : Bool) (vn1 : Int) (vad1 : Option Addr) (vk1 vcap1 tn1 tc1 : Nat) (tad1 : Option Addr) (at1 er1 : Int) (iv1 : Value), j ≤ sln ∧ i = .int .i64 j ∧ Hid (PlM w WL B3 #[.bool vl1, .int .i64 vn1, .slice vad1 vk1 vcap1, .slice tad1 tn1 tc1, .int .i64 at1, .int .i64 er1] iv1 wr) ∧ PlSt w WL B3 S mend l sl R j (.slice tad1 tn1 tc1) at1 er1 iv1 wr) (fun i _ => sln - (intOf i).toNat)
      case atStart => exact ⟨0, _, _, _, _, _, _, _, _, _, _, _, by omega, rfl, HMP, HST0⟩
      case round =>
        obtain ⟨j, vl1, vn1, vad1, vk1, vcap1, tn1, tc1, tad1, at1, er1, iv1, hj, rfl, HM, HS1⟩ := hrel
        have hzr := HM.out.siz
        have hb3a := HB3a.out
        have hb3b := HB3b.out
        by_cases hlt : j < sln
        · have p0 : (0 : Int) ≤ (j : Int) := by omega
          have p1' : (j : Int) < (sln : Int) := by omega
          have hlt' : j < sl.length := by have := hsl.out; omega
          obtain ⟨bl, off, rfl, hbl, hsb, hcg⟩ := HGS.out.at' (by omega)
          obtain ⟨k2, a2, b2, t2, ad2, cap2, c0', c1', c2', c3', hg2⟩ := hcg j hlt'
          obtain ⟨n1, n2, n3⟩ := HSG.out bl hsb
          have hbk := HM.out.fr bl hbl n1 n3
          have hce : ∀ x, wr.cell? ⟨bl, x, none⟩ = WL.cell? ⟨bl, x, none⟩ := fun x => World.cell?_of_block (a := ⟨bl, x, none⟩) hbk
          have c0 := (hce _).trans c0'
          have c1 := (hce _).trans c1'
          have c2 := (hce _).trans c2'
          have c3 := (hce _).trans c3'
          have hbr : bl < wr.heap.size := by omega
          have HG2 := Lib.hid hg2
          clear hcg c0' c1' c2' c3' hce hbk hg2
          rcases HS1 with ⟨rfl, tapej, qj, SV, cs, ts, rfl, hok⟩ | ⟨her, hRe, cs, hrow⟩
          · have HOK := Lib.hid hok
            have hcl := GT.costL_drop sl j hlt'
            have hbd := hok.bud
            have hbd2 := hok.bud2
            have CK : Hid (∀ W, Below wr.heap.size wr W → Calls Tryz.prog 66 #[.agg #[.int .i64 k2, .int .i64 a2, .int .i64 b2, .slice ad2 t2 cap2], .agg #[.bool vl1, .int .i64 vn1, .slice vad1 vk1 vcap1, .slice tad1 tn1 tc1, .int .i64 (qj : Nat), .int .i64 0], .slice lad l.length lcap, .bool mend] W (PlaysR W (STp w B3 S iv1) (GT.play (stC mend l) sl[j] (tapej, qj)))) := fun W hW =>
              IHL.out _ (List.getElem_mem hlt') _ _ _ _ _ _ _ _ _ _ _ W (HG2.out.ext (HM.out.bel.trans (hW.mono HM.out.bel.size))) (HLL.out.ext (HM.out.bel.trans (hW.mono HM.out.bel.size))) (IntsS.reads.keep hok.ch hW.size (fun x hx hl => ⟨hx, hW.block x hl⟩)) (by omega) (by omega)
            clear hok HG2
            have hpr := HM.out.p
            have f0 := hpr.cell 0
            have f1 := hpr.cell 1
            have f2 := hpr.cell 2
            have f3 := hpr.cell 3
            have f4 := hpr.cell 4
            have f5 := hpr.cell 5
            simp only [List.getElem?_toArray, List.getElem?_cons_succ, List.getElem?_cons_zero] at f0 f1 f2 f3 f4 f5
            go_wp2_with fail
            refine region_mov (S := fun w' => w'.cell? ⟨bl, off + j * 4, none⟩ = some (.int .i64 k2) ∧ w'.cell? ⟨bl, off + j * 4 + 1, none⟩ = some (.int .i64 a2) ∧ w'.cell? ⟨bl, off + j * 4 + 2, none⟩ = some (.int .i64 b2) ∧ w'.cell? ⟨bl, off + j * 4 + 3, none⟩ = some (.slice ad2 t2 cap2) ∧ w'.cell? ⟨w.heap.size + 1, 0, none⟩ = some (.bool vl1) ∧ w'.cell? ⟨w.heap.size + 1, 1, none⟩ = some (.int .i64 vn1) ∧ w'.cell? ⟨w.heap.size + 1, 2, none⟩ = some (.slice vad1 vk1 vcap1) ∧ w'.cell? ⟨w.heap.size + 1, 3, none⟩ = some (.slice tad1 tn1 tc1) ∧ w'.cell? ⟨w.heap.size + 1, 4, none⟩ = some (.int .i64 (qj : Nat)) ∧ w'.cell? ⟨w.heap.size + 1, 5, none⟩ = some (.int .i64 0)) (n := 8) (ms := [(true, 0), (true, 1), (true, 2), (true, 3), (true, 4), (true, 5), (true, 6), (false, 7), (false, 8)]) (hm := by kernel_rfl) (hB := by kernel_rfl) (hQ := fun c a d v w h => by cases d <;> exact h) ?_
            have HS0 : Hid ((fun w' => w'.cell? ⟨bl, off + j * 4, none⟩ = some (.int .i64 k2) ∧ w'.cell? ⟨bl, off + j * 4 + 1, none⟩ = some (.int .i64 a2) ∧ w'.cell? ⟨bl, off + j * 4 + 2, none⟩ = some (.int .i64 b2) ∧ w'.cell? ⟨bl, off + j * 4 + 3, none⟩ = some (.slice ad2 t2 cap2) ∧ w'.cell? ⟨w.heap.size + 1, 0, none⟩ = some (.bool vl1) ∧ w'.cell? ⟨w.heap.size + 1, 1, none⟩ = some (.int .i64 vn1) ∧ w'.cell? ⟨w.heap.size + 1, 2, none⟩ = some (.slice vad1 vk1 vcap1) ∧ w'.cell? ⟨w.heap.size + 1, 3, none⟩ = some (.slice tad1 tn1 tc1) ∧ w'.cell? ⟨w.heap.size + 1, 4, none⟩ = some (.int .i64 (qj : Nat)) ∧ w'.cell? ⟨w.heap.size + 1, 5, none⟩ = some (.int .i64 0)) wr.drew) := ⟨c0, c1, c2, c3, f0, f1, f2, f3, f4, f5⟩
            iterate 7
              rw [mov_take]
              simp only [List.getElem?_toArray, List.getElem?_cons_succ, List.getElem?_cons_zero]
              refine ⟨?_, .inl ⟨by rfl, ?_⟩, HS0.out, ?_⟩
              rotate_left
              · rintro w' ⟨s0, s1, s2, s3, s4, s5, s6, s7, s8, s9⟩
                go_simp
                rfl
              simp only [Act.put, List.setIfInBounds_toArray, List.set_cons_zero, List.set_cons_succ]
            have hWD : Below wr.heap.size wr wr.drew := (Below.refl _ _).drew
            have HWD := Lib.hid hWD
            clear HS0 f0 f1 f2 f3 f4 f5
            have HS : Hid (∀ W', Below wr.heap.size wr W' → (fun w' => w'.cell? ⟨bl, off + j * 4, none⟩ = some (.int .i64 k2) ∧ w'.cell? ⟨bl, off + j * 4 + 1, none⟩ = some (.int .i64 a2) ∧ w'.cell? ⟨bl, off + j * 4 + 2, none⟩ = some (.int .i64 b2) ∧ w'.cell? ⟨bl, off + j * 4 + 3, none⟩ = some (.slice ad2 t2 cap2) ∧ w'.cell? ⟨w.heap.size + 1, 0, none⟩ = some (.bool vl1) ∧ w'.cell? ⟨w.heap.size + 1, 1, none⟩ = some (.int .i64 vn1) ∧ w'.cell? ⟨w.heap.size + 1, 2, none⟩ = some (.slice vad1 vk1 vcap1) ∧ w'.cell? ⟨w.heap.size + 1, 3, none⟩ = some (.slice tad1 tn1 tc1) ∧ w'.cell? ⟨w.heap.size + 1, 4, none⟩ = some (.int .i64 (qj : Nat)) ∧ w'.cell? ⟨w.heap.size + 1, 5, none⟩ = some (.int .i64 0)) W') := fun W' h =>
              ⟨(h.cell (p := ⟨bl, _, none⟩) hbr).trans c0, (h.cell (p := ⟨bl, _, none⟩) hbr).trans c1, (h.cell (p := ⟨bl, _, none⟩) hbr).trans c2, (h.cell (p := ⟨bl, _, none⟩) hbr).trans c3,
                (hpr.ext h).cell 0, (hpr.ext h).cell 1, (hpr.ext h).cell 2, (hpr.ext h).cell 3, (hpr.ext h).cell 4, (hpr.ext h).cell 5⟩
            have hzd : wr.drew.heap.size = wr.heap.size := rfl
            clear c0 c1 c2 c3 hWD
            generalize wr.drew = WD at *
            rw [mov_step]
            simp only [List.getElem?_toArray, List.getElem?_cons_succ, List.getElem?_cons_zero]
            go_wp2_with fail
            refine (CK.out WD HWD.out).mono ?_
            rintro e V he
            obtain ⟨⟨pv, rfl, hP⟩, hbv⟩ := he
            have hb : Below wr.heap.size wr V := HWD.out.trans (hbv.mono (by omega))
            have hsW : ∀ x : Nat, WD.heap.size ≤ x ↔ wr.heap.size ≤ x := fun x => by rw [hzd]
            obtain ⟨l5, n5, ad5, k5, cap5, tad5, tn5, tc5, at5, x5, rfl⟩ := hP.shape
            have HP : Hid (PlayIn V (fun b => wr.heap.size ≤ b) (fun b => STp w B3 S iv1 b ∨ wr.heap.size ≤ b) (.agg #[.bool l5, .int .i64 n5, .slice ad5 k5 cap5, .slice tad5 tn5 tc5, .int .i64 at5, .int .i64 x5]) (GT.play (stC mend l) sl[j] (tapej, qj))) := hP.keep (Nat.le_refl _) (fun x hx _ => ⟨(hsW x).1 hx, rfl⟩) (fun x hx _ => ⟨hx.imp id (hsW x).1, rfl⟩)
            clear hP hbv hsW CK
            have hpv := hpr.ext hb
            have h0 := hpv.cell 0
            have h1 := hpv.cell 1
            have h2 := hpv.cell 2
            have h3 := hpv.cell 3
            have h4 := hpv.cell 4
            have h5 := hpv.cell 5
            simp only [List.getElem?_toArray, List.getElem?_cons_succ, List.getElem?_cons_zero] at h0 h1 h2 h3 h4 h5
            have u0 := hpv.unfrozen 0
            have u1 := hpv.unfrozen 1
            have u2 := hpv.unfrozen 2
            have u3 := hpv.unfrozen 3
            have u4 := hpv.unfrozen 4
            have u5 := hpv.unfrozen 5
            have HS2 := Lib.hid (HS.out V hb)
            clear HS
            go_wp2_with fail
            refine And.intro (fun _ => HS2.out) ?_
            rw [mov_step]
            simp only [List.getElem?_toArray, List.getElem?_cons_succ, List.getElem?_cons_zero]
            go_wp2_with fail
            refine And.intro (fun h => absurd h (by omega)) ?_
            rw [wpMov]
            clear HS2 h0 h1 h2 h3 h4 h5 u0 u1 u2 u3 u4 u5
            generalize hV1 : ((((((V.setCell ⟨w.heap.size + 1, 0, none⟩ (.bool l5)).setCell ⟨w.heap.size + 1, 1, none⟩ (.int .i64 n5)).setCell ⟨w.heap.size + 1, 2, none⟩ (.slice ad5 k5 cap5)).setCell ⟨w.heap.size + 1, 3, none⟩ (.slice tad5 tn5 tc5)).setCell ⟨w.heap.size + 1, 4, none⟩ (.int .i64 at5)).setCell ⟨w.heap.size + 1, 5, none⟩ (.int .i64 x5)) = V1
            have HV1 := Lib.hid hV1
            have p1 : Blk V1 (w.heap.size + 1) #[.bool l5, .int .i64 n5, .slice ad5 k5 cap5, .slice tad5 tn5 tc5, .int .i64 at5, .int .i64 x5] 110 := by rw [← hV1]; exact set6 hpv _ _ _ _ _ _
            have v1 : Blk V1 B3 #[.bool true, .int .i64 0, iv1] 45 := by
              rw [← hV1]
              exact (HM.out.v.ext hb).same (heap_st6 _ _ (by omega) _ _ _ _ _ _)
            have hz1 : V1.heap.size = V.heap.size := by rw [← hV1]; simp only [size_setCell]
            have hf1 : ∀ x, x ≠ w.heap.size + 1 → V1.heap[x]? = V.heap[x]? := fun x hx => by rw [← hV1]; exact heap_st6 _ _ hx _ _ _ _ _ _
            clear hV1
            have hzV := hb.size
            have HRW : Hid (V1.ownsRow WL.heap.size 45 3 iv1 j cs) := row_keep (by have h := HOK.out.items.own; rw [HOK.out.len] at h; exact h) (fun x hx hl => (hf1 x (by have := World.ownsRow.lt (by have h := HOK.out.items.own; rw [HOK.out.len] at h; exact h) x hx; omega)).trans (hb.block x hl))
            have hivl : ∀ x, iv1.ownBlock = some x → WL.heap.size ≤ x ∧ x < wr.heap.size := World.ownsRow.lt (by have h := HOK.out.items.own; rw [HOK.out.len] at h; exact h)
            have HIV := Lib.hid hivl
            have q0 := p1.cell 0
            have q1 := p1.cell 1
            have q2 := p1.cell 2
            have r2 := v1.cell 2
            simp only [List.getElem?_toArray, List.getElem?_cons_succ, List.getElem?_cons_zero] at q0 q1 q2 r2
            obtain ⟨inf, hi0, hi1, hi2, hi3⟩ := info_value
            have HI0 := Lib.hid hi0
            have HI1 := Lib.hid hi1
            have HI2 := Lib.hid hi2
            have HI3 := Lib.hid hi3
            have hV1l : B3 < V1.heap.size := by omega
            have hV1w : WL.heap.size ≤ V1.heap.size := by omega
            have hV1p : w.heap.size + 1 < V1.heap.size := p1.lt
            have HZ1 := Lib.hid hz1
            clear hz1
            clear hi0 hi1 hi2 hi3 hivl
            go_wp2_with (at_builtin; refine wpList_append_lies (V1.alloc (.cells #[.bool l5, .int .i64 n5, .slice ad5 k5 cap5] 45)) (o := ⟨some 117, _, _, _, _, _⟩) rfl _ _ 43 rfl WL.heap.size 45 inf _ 3 40 Tryz.underlying43 HI0.out HI1.out HI2.out HI3.out rfl (by decide) iv1 j cs rfl (row_keep HRW.out (fun x _ hl => Below.heap_alloc V1 _ x hl)) ⟨V1.heap.size, 0, none⟩ 1 1 [.bool l5, .int .i64 n5, .slice ad5 k5 cap5] rfl rfl (World.news_of_block (Blk.new _ _ _)) (by simp [Value.oneCell']) (by decide) (by unfold maxLen; omega) (by omega) (by simp; omega) (V1.alloc (.cells #[.bool l5, .int .i64 n5, .slice ad5 k5 cap5] 45)).heap.size rfl ?_; intro gi capi w6 how hgr hat hgl; have v6 : Blk w6 B3 #[.bool true, .int .i64 0, iv1] 45 := (hgr.block B3 (by simp; omega) (fun e => by have := HIV.out _ e.symm; omega)).trans (v1.alloc _); have y2 := v6.cell 2; have uu2 := v6.unfrozen 2; simp only [List.getElem?_toArray, List.getElem?_cons_succ, List.getElem?_cons_zero] at y2)
            have hgr' := hgr
            rw [← HV1.out] at hgr'
            obtain ⟨hMN, hz6, hf6⟩ := HM.out.next (iv' := .slice (some ⟨gi, 0, none⟩) (j + 1) capi) HB3a.out HB3b.out hb HIV.out hgr' rfl
            have hz1 := HZ1.out
            have HRW2 : Hid ((w6.setCell ⟨B3, 2, none⟩ (.slice (some ⟨gi, 0, none⟩) (j + 1) capi)).ownsRow WL.heap.size 45 3 (.slice (some ⟨gi, 0, none⟩) (j + 1) capi) (j + 1) (cs ++ [.bool l5, .int .i64 n5, .slice ad5 k5 cap5])) := row_keep how (fun x hx hl => Below.heap_setCell _ _ _ _ (by have := World.ownsRow.lt how x hx; dsimp only; omega))
            have hgw : (V1.alloc (.cells #[.bool l5, .int .i64 n5, .slice ad5 k5 cap5] 45)).heap.size = V.heap.size + 1 := by simp; omega
            have hnx := HOK.out.next HB3a.out HB3b.out HM.out.siz HBL.out.size hlt' (HKS.out _ (List.getElem_mem hlt')) hb HP.out how hz6 hf6 hgw (fun x hx h1 => (Below.heap_alloc V1 _ x (by omega)).trans (hf1 x h1)) hgr (by
              rcases hat with e | e
              · exact .inl e.symm
              · exact .inr (by rw [← e]; rfl))
            have HNX := Lib.hid hnx
            have HMN := Lib.hid hMN
            clear hnx hMN hgr hgr' how hat hf6 hf1 hz1 hgw
            go_wp2_with fail
            refine ⟨⟨j + 1, _, _, _, _, _, _, _, _, _, _, _, by omega, by go_num, HMN, ?_⟩, by simp [intOf]; omega⟩
            rcases HNX.out with ⟨e1, tp, qq, SV2, cs2, ts2, e2, h2⟩ | ⟨e1, e2⟩
            · exact Or.inl ⟨e1, tp, qq, SV2, cs2, ts2, e2, h2⟩
            · exact Or.inr ⟨e1, e2, cs ++ [.bool l5, .int .i64 n5, .slice ad5 k5 cap5], HRW2.out⟩
          · have HRO := Lib.hid hrow
            have HNE := Lib.hid her
            have HRE := Lib.hid hRe
            have HCE : Hid (∀ W, Calls Tryz.prog 66 #[.agg #[.int .i64 k2, .int .i64 a2, .int .i64 b2, .slice ad2 t2 cap2], .agg #[.bool vl1, .int .i64 vn1, .slice vad1 vk1 vcap1, .slice tad1 tn1 tc1, .int .i64 at1, .int .i64 er1], .slice lad l.length lcap, .bool mend] W fun e w' => e = .returned (.agg #[.bool vl1, .int .i64 vn1, .slice vad1 vk1 vcap1, .slice tad1 tn1 tc1, .int .i64 at1, .int .i64 er1]) ∧ Below W.heap.size W w') := fun W => rplayed_err her ⟨_, _, _, rfl⟩
            clear hrow her hRe HG2
            have hpr := HM.out.p
            have f0 := hpr.cell 0
            have f1 := hpr.cell 1
            have f2 := hpr.cell 2
            have f3 := hpr.cell 3
            have f4 := hpr.cell 4
            have f5 := hpr.cell 5
            simp only [List.getElem?_toArray, List.getElem?_cons_succ, List.getElem?_cons_zero] at f0 f1 f2 f3 f4 f5
            go_wp2_with fail
            refine region_mov (S := fun w' => w'.cell? ⟨bl, off + j * 4, none⟩ = some (.int .i64 k2) ∧ w'.cell? ⟨bl, off + j * 4 + 1, none⟩ = some (.int .i64 a2) ∧ w'.cell? ⟨bl, off + j * 4 + 2, none⟩ = some (.int .i64 b2) ∧ w'.cell? ⟨bl, off + j * 4 + 3, none⟩ = some (.slice ad2 t2 cap2) ∧ w'.cell? ⟨w.heap.size + 1, 0, none⟩ = some (.bool vl1) ∧ w'.cell? ⟨w.heap.size + 1, 1, none⟩ = some (.int .i64 vn1) ∧ w'.cell? ⟨w.heap.size + 1, 2, none⟩ = some (.slice vad1 vk1 vcap1) ∧ w'.cell? ⟨w.heap.size + 1, 3, none⟩ = some (.slice tad1 tn1 tc1) ∧ w'.cell? ⟨w.heap.size + 1, 4, none⟩ = some (.int .i64 at1) ∧ w'.cell? ⟨w.heap.size + 1, 5, none⟩ = some (.int .i64 er1)) (n := 8) (ms := [(true, 0), (true, 1), (true, 2), (true, 3), (true, 4), (true, 5), (true, 6), (false, 7), (false, 8)]) (hm := by kernel_rfl) (hB := by kernel_rfl) (hQ := fun c a d v w h => by cases d <;> exact h) ?_
            have HS0 : Hid ((fun w' => w'.cell? ⟨bl, off + j * 4, none⟩ = some (.int .i64 k2) ∧ w'.cell? ⟨bl, off + j * 4 + 1, none⟩ = some (.int .i64 a2) ∧ w'.cell? ⟨bl, off + j * 4 + 2, none⟩ = some (.int .i64 b2) ∧ w'.cell? ⟨bl, off + j * 4 + 3, none⟩ = some (.slice ad2 t2 cap2) ∧ w'.cell? ⟨w.heap.size + 1, 0, none⟩ = some (.bool vl1) ∧ w'.cell? ⟨w.heap.size + 1, 1, none⟩ = some (.int .i64 vn1) ∧ w'.cell? ⟨w.heap.size + 1, 2, none⟩ = some (.slice vad1 vk1 vcap1) ∧ w'.cell? ⟨w.heap.size + 1, 3, none⟩ = some (.slice tad1 tn1 tc1) ∧ w'.cell? ⟨w.heap.size + 1, 4, none⟩ = some (.int .i64 at1) ∧ w'.cell? ⟨w.heap.size + 1, 5, none⟩ = some (.int .i64 er1)) wr.drew) := ⟨c0, c1, c2, c3, f0, f1, f2, f3, f4, f5⟩
            iterate 7
              rw [mov_take]
              simp only [List.getElem?_toArray, List.getElem?_cons_succ, List.getElem?_cons_zero]
              refine ⟨?_, .inl ⟨by rfl, ?_⟩, HS0.out, ?_⟩
              rotate_left
              · rintro w' ⟨s0, s1, s2, s3, s4, s5, s6, s7, s8, s9⟩
                go_simp
                rfl
              simp only [Act.put, List.setIfInBounds_toArray, List.set_cons_zero, List.set_cons_succ]
            have hWD : Below wr.heap.size wr wr.drew := (Below.refl _ _).drew
            have HWD := Lib.hid hWD
            clear HS0 f0 f1 f2 f3 f4 f5
            have HS : Hid (∀ W', Below wr.heap.size wr W' → (fun w' => w'.cell? ⟨bl, off + j * 4, none⟩ = some (.int .i64 k2) ∧ w'.cell? ⟨bl, off + j * 4 + 1, none⟩ = some (.int .i64 a2) ∧ w'.cell? ⟨bl, off + j * 4 + 2, none⟩ = some (.int .i64 b2) ∧ w'.cell? ⟨bl, off + j * 4 + 3, none⟩ = some (.slice ad2 t2 cap2) ∧ w'.cell? ⟨w.heap.size + 1, 0, none⟩ = some (.bool vl1) ∧ w'.cell? ⟨w.heap.size + 1, 1, none⟩ = some (.int .i64 vn1) ∧ w'.cell? ⟨w.heap.size + 1, 2, none⟩ = some (.slice vad1 vk1 vcap1) ∧ w'.cell? ⟨w.heap.size + 1, 3, none⟩ = some (.slice tad1 tn1 tc1) ∧ w'.cell? ⟨w.heap.size + 1, 4, none⟩ = some (.int .i64 at1) ∧ w'.cell? ⟨w.heap.size + 1, 5, none⟩ = some (.int .i64 er1)) W') := fun W' h =>
              ⟨(h.cell (p := ⟨bl, _, none⟩) hbr).trans c0, (h.cell (p := ⟨bl, _, none⟩) hbr).trans c1, (h.cell (p := ⟨bl, _, none⟩) hbr).trans c2, (h.cell (p := ⟨bl, _, none⟩) hbr).trans c3,
                (hpr.ext h).cell 0, (hpr.ext h).cell 1, (hpr.ext h).cell 2, (hpr.ext h).cell 3, (hpr.ext h).cell 4, (hpr.ext h).cell 5⟩
            have hzd : wr.drew.heap.size = wr.heap.size := rfl
            clear c0 c1 c2 c3 hWD
            generalize wr.drew = WD at *
            rw [mov_step]
            simp only [List.getElem?_toArray, List.getElem?_cons_succ, List.getElem?_cons_zero]
            go_wp2_with fail
            refine (HCE.out WD).mono ?_
            rintro e V ⟨rfl, hbv⟩
            have hb : Below wr.heap.size wr V := HWD.out.trans (hbv.mono (by omega))
            clear hbv HCE
            have hpv := hpr.ext hb
            have h0 := hpv.cell 0
            have h1 := hpv.cell 1
            have h2 := hpv.cell 2
            have h3 := hpv.cell 3
            have h4 := hpv.cell 4
            have h5 := hpv.cell 5
            simp only [List.getElem?_toArray, List.getElem?_cons_succ, List.getElem?_cons_zero] at h0 h1 h2 h3 h4 h5
            have u0 := hpv.unfrozen 0
            have u1 := hpv.unfrozen 1
            have u2 := hpv.unfrozen 2
            have u3 := hpv.unfrozen 3
            have u4 := hpv.unfrozen 4
            have u5 := hpv.unfrozen 5
            have HS2 := Lib.hid (HS.out V hb)
            clear HS
            go_wp2_with fail
            refine And.intro (fun _ => HS2.out) ?_
            rw [mov_step]
            simp only [List.getElem?_toArray, List.getElem?_cons_succ, List.getElem?_cons_zero]
            go_wp2_with fail
            refine And.intro (fun h => absurd h (by omega)) ?_
            rw [wpMov]
            clear HS2 h0 h1 h2 h3 h4 h5 u0 u1 u2 u3 u4 u5
            generalize hV1 : ((((((V.setCell ⟨w.heap.size + 1, 0, none⟩ (.bool vl1)).setCell ⟨w.heap.size + 1, 1, none⟩ (.int .i64 vn1)).setCell ⟨w.heap.size + 1, 2, none⟩ (.slice vad1 vk1 vcap1)).setCell ⟨w.heap.size + 1, 3, none⟩ (.slice tad1 tn1 tc1)).setCell ⟨w.heap.size + 1, 4, none⟩ (.int .i64 at1)).setCell ⟨w.heap.size + 1, 5, none⟩ (.int .i64 er1)) = V1
            have HV1 := Lib.hid hV1
            have p1 : Blk V1 (w.heap.size + 1) #[.bool vl1, .int .i64 vn1, .slice vad1 vk1 vcap1, .slice tad1 tn1 tc1, .int .i64 at1, .int .i64 er1] 110 := by rw [← hV1]; exact set6 hpv _ _ _ _ _ _
            have v1 : Blk V1 B3 #[.bool true, .int .i64 0, iv1] 45 := by
              rw [← hV1]
              exact (HM.out.v.ext hb).same (heap_st6 _ _ (by omega) _ _ _ _ _ _)
            have hz1 : V1.heap.size = V.heap.size := by rw [← hV1]; simp only [size_setCell]
            have hf1 : ∀ x, x ≠ w.heap.size + 1 → V1.heap[x]? = V.heap[x]? := fun x hx => by rw [← hV1]; exact heap_st6 _ _ hx _ _ _ _ _ _
            clear hV1
            have hzV := hb.size
            have HRW : Hid (V1.ownsRow WL.heap.size 45 3 iv1 j cs) := row_keep HRO.out (fun x hx hl => (hf1 x (by have := World.ownsRow.lt HRO.out x hx; omega)).trans (hb.block x hl))
            have hivl : ∀ x, iv1.ownBlock = some x → WL.heap.size ≤ x ∧ x < wr.heap.size := World.ownsRow.lt HRO.out
            have HIV := Lib.hid hivl
            have q0 := p1.cell 0
            have q1 := p1.cell 1
            have q2 := p1.cell 2
            have r2 := v1.cell 2
            simp only [List.getElem?_toArray, List.getElem?_cons_succ, List.getElem?_cons_zero] at q0 q1 q2 r2
            obtain ⟨inf, hi0, hi1, hi2, hi3⟩ := info_value
            have HI0 := Lib.hid hi0
            have HI1 := Lib.hid hi1
            have HI2 := Lib.hid hi2
            have HI3 := Lib.hid hi3
            have hV1l : B3 < V1.heap.size := by omega
            have hV1w : WL.heap.size ≤ V1.heap.size := by omega
            have hV1p : w.heap.size + 1 < V1.heap.size := p1.lt
            have HZ1 := Lib.hid hz1
            clear hz1
            clear hi0 hi1 hi2 hi3 hivl
            go_wp2_with (at_builtin; refine wpList_append_lies (V1.alloc (.cells #[.bool vl1, .int .i64 vn1, .slice vad1 vk1 vcap1] 45)) (o := ⟨some 117, _, _, _, _, _⟩) rfl _ _ 43 rfl WL.heap.size 45 inf _ 3 40 Tryz.underlying43 HI0.out HI1.out HI2.out HI3.out rfl (by decide) iv1 j cs rfl (row_keep HRW.out (fun x _ hl => Below.heap_alloc V1 _ x hl)) ⟨V1.heap.size, 0, none⟩ 1 1 [.bool vl1, .int .i64 vn1, .slice vad1 vk1 vcap1] rfl rfl (World.news_of_block (Blk.new _ _ _)) (by simp [Value.oneCell']) (by decide) (by unfold maxLen; omega) (by omega) (by simp; omega) (V1.alloc (.cells #[.bool vl1, .int .i64 vn1, .slice vad1 vk1 vcap1] 45)).heap.size rfl ?_; intro gi capi w6 how hgr hat hgl; have v6 : Blk w6 B3 #[.bool true, .int .i64 0, iv1] 45 := (hgr.block B3 (by simp; omega) (fun e => by have := HIV.out _ e.symm; omega)).trans (v1.alloc _); have y2 := v6.cell 2; have uu2 := v6.unfrozen 2; simp only [List.getElem?_toArray, List.getElem?_cons_succ, List.getElem?_cons_zero] at y2)
            have hgr' := hgr
            rw [← HV1.out] at hgr'
            obtain ⟨hMN, hz6, hf6⟩ := HM.out.next (iv' := .slice (some ⟨gi, 0, none⟩) (j + 1) capi) HB3a.out HB3b.out hb HIV.out hgr' rfl
            have HRW2 : Hid ((w6.setCell ⟨B3, 2, none⟩ (.slice (some ⟨gi, 0, none⟩) (j + 1) capi)).ownsRow WL.heap.size 45 3 (.slice (some ⟨gi, 0, none⟩) (j + 1) capi) (j + 1) (cs ++ [.bool vl1, .int .i64 vn1, .slice vad1 vk1 vcap1])) := row_keep how (fun x hx hl => Below.heap_setCell _ _ _ _ (by have := World.ownsRow.lt how x hx; dsimp only; omega))
            have HMN := Lib.hid hMN
            clear hMN hgr hgr' how hat hf6 hf1
            go_wp2_with fail
            exact ⟨⟨j + 1, _, _, _, _, _, _, _, _, _, _, _, by omega, by go_num, HMN, Or.inr ⟨HNE.out, HRE.out, _, HRW2.out⟩⟩, by simp [intOf]; omega⟩
        · have hjl : j = sln := by omega
          rcases HS1 with ⟨rfl, tapej, qj, SV, cs, ts, rfl, hok⟩ | ⟨her, hRe, cs, hrow⟩
          · have HOK := Lib.hid hok
            have HRX : Hid (R = .ok (.mk true 0 ts, (tapej, qj))) := by
              have h := hok.eq
              rw [List.drop_eq_nil_of_le (by have := hsl.out; omega)] at h
              show _ = _
              rw [← h]
              simp [GT.playL, app, asList]
            clear hok hjl
            obtain ⟨adi, capi, rfl⟩ := HOK.out.items.shape
            have hpr := HM.out.p
            have hvr := HM.out.v
            have y2 := L2.out.same (HM.out.fr _ (by omega) (by omega) (by omega))
            have p1' : ¬ (j : Int) < (sln : Int) := by omega
            have hBr := HM.out.bel
            have h0 := hvr.cell 0
            have h1 := hvr.cell 1
            have h2 := hvr.cell 2
            simp only [List.getElem?_toArray, List.getElem?_cons_succ, List.getElem?_cons_zero] at h0 h1 h2
            have d0 := hpr.cell 0
            have d1 := hpr.cell 1
            have d2 := hpr.cell 2
            have d3 := hpr.cell 3
            have d4 := hpr.cell 4
            have d5 := hpr.cell 5
            simp only [List.getElem?_toArray, List.getElem?_cons_succ, List.getElem?_cons_zero] at d0 d1 d2 d3 d4 d5
            have u0 := hpr.unfrozen 0
            have u1 := hpr.unfrozen 1
            have u2 := hpr.unfrozen 2
            have u3 := hpr.unfrozen 3
            have u4 := hpr.unfrozen 4
            have u5 := hpr.unfrozen 5
            go_upto_region 29 with (fail)
            clear d0 d1 d2 d3 d4 d5 u0 u1 u2 u3 u4 u5
            generalize hW : (((wr.setCell ⟨w.heap.size + 1, 0, none⟩ (.bool true)).setCell ⟨w.heap.size + 1, 1, none⟩ (.int .i64 0)).setCell ⟨w.heap.size + 1, 2, none⟩ (.slice adi ts.length capi)) = W1
            have hB1 : Below w.heap.size w W1 := by rw [← hW]; exact ((hBr.setCell (by simp) _).setCell (by simp) _).setCell (by simp) _
            have z1 : Blk W1 (w.heap.size + 1) #[.bool true, .int .i64 0, .slice adi ts.length capi, .slice tad1 tn1 tc1, .int .i64 (qj : Nat), .int .i64 0] 110 := by rw [← hW]; simpa using ((hpr.set 0 (.bool true)).set 1 (.int .i64 0)).set 2 (.slice adi ts.length capi)
            have fr1 : ∀ x, x ≠ w.heap.size + 1 → W1.heap[x]? = wr.heap[x]? := by intro x hx; rw [← hW, Below.heap_setCell _ _ _ _ hx, Below.heap_setCell _ _ _ _ hx, Below.heap_setCell _ _ _ _ hx]
            have z2 : Blk W1 (w.heap.size + 2) #[.bool false, .int .i64 0, .slice none 0 0, .slice none 0 0, .int .i64 0, .int .i64 0] 110 := y2.same (fr1 _ (by omega))
            have hzW1 : W1.heap.size = wr.heap.size := by rw [← hW]; simp only [size_setCell]
            clear hW
            clear h0 h1 h2
            have d0 := z1.cell 0
            have d1 := z1.cell 1
            have d2 := z1.cell 2
            have d3 := z1.cell 3
            have d4 := z1.cell 4
            have d5 := z1.cell 5
            simp only [List.getElem?_toArray, List.getElem?_cons_succ, List.getElem?_cons_zero] at d0 d1 d2 d3 d4 d5
            have e0 := z2.cell 0
            have e1 := z2.cell 1
            have e2 := z2.cell 2
            have e3 := z2.cell 3
            have e4 := z2.cell 4
            have e5 := z2.cell 5
            simp only [List.getElem?_toArray, List.getElem?_cons_succ, List.getElem?_cons_zero] at e0 e1 e2 e3 e4 e5
            have u0 := z2.unfrozen 0
            have u1 := z2.unfrozen 1
            have u2 := z2.unfrozen 2
            have u3 := z2.unfrozen 3
            have u4 := z2.unfrozen 4
            have u5 := z2.unfrozen 5
            go_wp2_with fail
            refine bodyPost_ret (v := .agg #[.bool true, .int .i64 0, .slice adi ts.length capi, .slice tad1 tn1 tc1, .int .i64 (qj : Nat), .int .i64 0]) (by simp [results, Tryz.results66, go_sem, d0, d1, d2, d3, d4, d5, e0, e1, e2, e3, e4, e5, u0, u1, u2, u3, u4, u5]) rfl ?_
            have hBF : Below w.heap.size w ((((((W1.setCell ⟨w.heap.size + 2, 0, none⟩ (.bool true)).setCell ⟨w.heap.size + 2, 1, none⟩ (.int .i64 0)).setCell ⟨w.heap.size + 2, 2, none⟩ (.slice adi ts.length capi)).setCell ⟨w.heap.size + 2, 3, none⟩ (.slice tad1 tn1 tc1)).setCell ⟨w.heap.size + 2, 4, none⟩ (.int .i64 (qj : Nat))).setCell ⟨w.heap.size + 2, 5, none⟩ (.int .i64 0)) := below_st6 hB1 (by omega) _ _ _ _ _ _
            have hKF : ∀ x, x ≠ w.heap.size + 2 → ((((((W1.setCell ⟨w.heap.size + 2, 0, none⟩ (.bool true)).setCell ⟨w.heap.size + 2, 1, none⟩ (.int .i64 0)).setCell ⟨w.heap.size + 2, 2, none⟩ (.slice adi ts.length capi)).setCell ⟨w.heap.size + 2, 3, none⟩ (.slice tad1 tn1 tc1)).setCell ⟨w.heap.size + 2, 4, none⟩ (.int .i64 (qj : Nat))).setCell ⟨w.heap.size + 2, 5, none⟩ (.int .i64 0)).heap[x]? = W1.heap[x]? := fun x hx => heap_st6 _ _ hx _ _ _ _ _ _
            have hZF : ((((((W1.setCell ⟨w.heap.size + 2, 0, none⟩ (.bool true)).setCell ⟨w.heap.size + 2, 1, none⟩ (.int .i64 0)).setCell ⟨w.heap.size + 2, 2, none⟩ (.slice adi ts.length capi)).setCell ⟨w.heap.size + 2, 3, none⟩ (.slice tad1 tn1 tc1)).setCell ⟨w.heap.size + 2, 4, none⟩ (.int .i64 (qj : Nat))).setCell ⟨w.heap.size + 2, 5, none⟩ (.int .i64 0)).heap.size = W1.heap.size := by simp only [size_setCell]
            rw [HRX.out]
            have hall : ∀ x, x ≠ w.heap.size + 1 → x ≠ w.heap.size + 2 → ((((((W1.setCell ⟨w.heap.size + 2, 0, none⟩ (.bool true)).setCell ⟨w.heap.size + 2, 1, none⟩ (.int .i64 0)).setCell ⟨w.heap.size + 2, 2, none⟩ (.slice adi ts.length capi)).setCell ⟨w.heap.size + 2, 3, none⟩ (.slice tad1 tn1 tc1)).setCell ⟨w.heap.size + 2, 4, none⟩ (.int .i64 (qj : Nat))).setCell ⟨w.heap.size + 2, 5, none⟩ (.int .i64 0)).heap[x]? = wr.heap[x]? := fun x h1 h2 => (hKF x h2).trans (fr1 x h1)
            have hival := HOK.out.items.lt
            refine ⟨⟨_, rfl, _, _, _, _, _, _, rfl, HOK.out.items.val.keep (by rw [hZF, hzW1]; exact Nat.le_refl _) (fun x hx hl => ?_), IntsS.reads.keep HOK.out.ch (by rw [hZF, hzW1]; exact Nat.le_refl _) (fun x hx hl => ⟨hx.1, hall x hx.2.1 hx.2.2.1⟩)⟩, hBF⟩
            have hx2 : WL.heap.size ≤ x := by
              rcases hx with hx | hx
              · exact (HOK.out.new x hx).1
              · exact (hival x hx).1
            exact ⟨by have := HBL.out.size; omega, hall x (by omega) (by omega)⟩
          · have HNE := Lib.hid her
            have HRE := Lib.hid hRe
            clear her hRe hjl
            obtain ⟨adi, capi, rfl⟩ := row_shape hrow
            clear hrow
            have hpr := HM.out.p
            have hvr := HM.out.v
            have y2 := L2.out.same (HM.out.fr _ (by omega) (by omega) (by omega))
            have p1' : ¬ (j : Int) < (sln : Int) := by omega
            have hBr := HM.out.bel
            have h0 := hvr.cell 0
            have h1 := hvr.cell 1
            have h2 := hvr.cell 2
            simp only [List.getElem?_toArray, List.getElem?_cons_succ, List.getElem?_cons_zero] at h0 h1 h2
            have d0 := hpr.cell 0
            have d1 := hpr.cell 1
            have d2 := hpr.cell 2
            have d3 := hpr.cell 3
            have d4 := hpr.cell 4
            have d5 := hpr.cell 5
            simp only [List.getElem?_toArray, List.getElem?_cons_succ, List.getElem?_cons_zero] at d0 d1 d2 d3 d4 d5
            have u0 := hpr.unfrozen 0
            have u1 := hpr.unfrozen 1
            have u2 := hpr.unfrozen 2
            have u3 := hpr.unfrozen 3
            have u4 := hpr.unfrozen 4
            have u5 := hpr.unfrozen 5
            go_upto_region 29 with (fail)
            clear d0 d1 d2 d3 d4 d5 u0 u1 u2 u3 u4 u5
            generalize hW : (((wr.setCell ⟨w.heap.size + 1, 0, none⟩ (.bool true)).setCell ⟨w.heap.size + 1, 1, none⟩ (.int .i64 0)).setCell ⟨w.heap.size + 1, 2, none⟩ (.slice adi j capi)) = W1
            have hB1 : Below w.heap.size w W1 := by rw [← hW]; exact ((hBr.setCell (by simp) _).setCell (by simp) _).setCell (by simp) _
            have z1 : Blk W1 (w.heap.size + 1) #[.bool true, .int .i64 0, .slice adi j capi, .slice tad1 tn1 tc1, .int .i64 at1, .int .i64 er1] 110 := by rw [← hW]; simpa using ((hpr.set 0 (.bool true)).set 1 (.int .i64 0)).set 2 (.slice adi j capi)
            have fr1 : ∀ x, x ≠ w.heap.size + 1 → W1.heap[x]? = wr.heap[x]? := by intro x hx; rw [← hW, Below.heap_setCell _ _ _ _ hx, Below.heap_setCell _ _ _ _ hx, Below.heap_setCell _ _ _ _ hx]
            have z2 : Blk W1 (w.heap.size + 2) #[.bool false, .int .i64 0, .slice none 0 0, .slice none 0 0, .int .i64 0, .int .i64 0] 110 := y2.same (fr1 _ (by omega))
            have hzW1 : W1.heap.size = wr.heap.size := by rw [← hW]; simp only [size_setCell]
            clear hW
            clear h0 h1 h2
            have d0 := z1.cell 0
            have d1 := z1.cell 1
            have d2 := z1.cell 2
            have d3 := z1.cell 3
            have d4 := z1.cell 4
            have d5 := z1.cell 5
            simp only [List.getElem?_toArray, List.getElem?_cons_succ, List.getElem?_cons_zero] at d0 d1 d2 d3 d4 d5
            have e0 := z2.cell 0
            have e1 := z2.cell 1
            have e2 := z2.cell 2
            have e3 := z2.cell 3
            have e4 := z2.cell 4
            have e5 := z2.cell 5
            simp only [List.getElem?_toArray, List.getElem?_cons_succ, List.getElem?_cons_zero] at e0 e1 e2 e3 e4 e5
            have u0 := z2.unfrozen 0
            have u1 := z2.unfrozen 1
            have u2 := z2.unfrozen 2
            have u3 := z2.unfrozen 3
            have u4 := z2.unfrozen 4
            have u5 := z2.unfrozen 5
            go_wp2_with fail
            refine bodyPost_ret (v := .agg #[.bool true, .int .i64 0, .slice adi j capi, .slice tad1 tn1 tc1, .int .i64 at1, .int .i64 er1]) (by simp [results, Tryz.results66, go_sem, d0, d1, d2, d3, d4, d5, e0, e1, e2, e3, e4, e5, u0, u1, u2, u3, u4, u5]) rfl ?_
            have hBF : Below w.heap.size w ((((((W1.setCell ⟨w.heap.size + 2, 0, none⟩ (.bool true)).setCell ⟨w.heap.size + 2, 1, none⟩ (.int .i64 0)).setCell ⟨w.heap.size + 2, 2, none⟩ (.slice adi j capi)).setCell ⟨w.heap.size + 2, 3, none⟩ (.slice tad1 tn1 tc1)).setCell ⟨w.heap.size + 2, 4, none⟩ (.int .i64 at1)).setCell ⟨w.heap.size + 2, 5, none⟩ (.int .i64 er1)) := below_st6 hB1 (by omega) _ _ _ _ _ _
            have hKF : ∀ x, x ≠ w.heap.size + 2 → ((((((W1.setCell ⟨w.heap.size + 2, 0, none⟩ (.bool true)).setCell ⟨w.heap.size + 2, 1, none⟩ (.int .i64 0)).setCell ⟨w.heap.size + 2, 2, none⟩ (.slice adi j capi)).setCell ⟨w.heap.size + 2, 3, none⟩ (.slice tad1 tn1 tc1)).setCell ⟨w.heap.size + 2, 4, none⟩ (.int .i64 at1)).setCell ⟨w.heap.size + 2, 5, none⟩ (.int .i64 er1)).heap[x]? = W1.heap[x]? := fun x hx => heap_st6 _ _ hx _ _ _ _ _ _
            have hZF : ((((((W1.setCell ⟨w.heap.size + 2, 0, none⟩ (.bool true)).setCell ⟨w.heap.size + 2, 1, none⟩ (.int .i64 0)).setCell ⟨w.heap.size + 2, 2, none⟩ (.slice adi j capi)).setCell ⟨w.heap.size + 2, 3, none⟩ (.slice tad1 tn1 tc1)).setCell ⟨w.heap.size + 2, 4, none⟩ (.int .i64 at1)).setCell ⟨w.heap.size + 2, 5, none⟩ (.int .i64 er1)).heap.size = W1.heap.size := by simp only [size_setCell]
            rw [HRE.out]
            exact ⟨⟨_, rfl, HNE.out, _, _, _, _, _, _, _, _, _, rfl⟩, hBF⟩
  | ok r =>
    obtain ⟨c, tape1, q1⟩ := r
    obtain ⟨⟨tv', rfl, hS1⟩, hb⟩ := he
    obtain ⟨hc0, hc1, hq1⟩ := stC_bd HST.out
    have HRX := Lib.hid HR.out
    obtain ⟨h64, ad1, cap1, rfl, hS1'⟩ := hS1
    have HS1 : Hid (IntsS W1 (fun b => W0.heap.size ≤ b) (.slice ad1 tape1.length cap1) tape1) := ⟨h64, ad1, cap1, rfl, hS1'⟩
    clear h64 hS1'
    have hB1 : Below w.heap.size w W1 := hB0.trans (hb.mono hB0.size)
    have y0 := x0.ext hb
    have y1 := x1.ext hb
    have y2 := x2.ext hb
    have hzb := hb.size
    obtain ⟨cn, rfl⟩ := Int.eq_ofNat_of_zero_le hc0
    have hcn : cn ≤ 5 := by omega
    have hqt : tape1 = tape ++ [(cn : Int)] ∧ q1 = q + 1 := by simpa using hq1
    have hqb : q1 = q + 1 := hqt.2
    have htb : tape1.length = tape.length + 1 := by rw [hqt.1]; simp
    have hcy : cn * GT.cost y ≤ 5 * GT.cost y := Nat.mul_le_mul_right _ hcn
    have HQB : Hid (q1 + cn * GT.cost y ≤ 1099511627776) := by show _ ≤ _; omega
    have HTB : Hid (tape1.length + cn * GT.cost y ≤ 1099511627776) := by show _ ≤ _; omega
    clear hqt hqb htb hcy hq1
    have f0 := y1.cell 0
    have f1 := y1.cell 1
    have f2 := y1.cell 2
    have f3 := y1.cell 3
    have f4 := y1.cell 4
    have f5 := y1.cell 5
    simp only [List.getElem?_toArray, List.getElem?_cons_succ, List.getElem?_cons_zero] at f0 f1 f2 f3 f4 f5
    have u0 := y1.unfrozen 0
    have u1 := y1.unfrozen 1
    have u2 := y1.unfrozen 2
    have u3 := y1.unfrozen 3
    have u4 := y1.unfrozen 4
    have u5 := y1.unfrozen 5
    go_upto_region 17 with (fail)
    clear f0 f1 f2 f3 f4 f5 u0 u1 u2 u3 u4 u5
    generalize hW : ((((((W1.setCell ⟨w.heap.size + 1, 0, none⟩ (.bool vl)).setCell ⟨w.heap.size + 1, 1, none⟩ (.int .i64 vn)).setCell ⟨w.heap.size + 1, 2, none⟩ (.slice vad vk vcap)).setCell ⟨w.heap.size + 1, 3, none⟩ (.slice ad1 (tape1.length) cap1)).setCell ⟨w.heap.size + 1, 4, none⟩ (.int .i64 (q1 : Nat))).setCell ⟨w.heap.size + 1, 5, none⟩ (.int .i64 0)) = W2
    have hB2 : Below w.heap.size w W2 := by rw [← hW]; exact below_st6 hB1 (by omega) _ _ _ _ _ _
    have z1 : Blk W2 (w.heap.size + 1) #[.bool vl, .int .i64 vn, .slice vad vk vcap, .slice ad1 (tape1.length) cap1, .int .i64 (q1 : Nat), .int .i64 0] 110 := by rw [← hW]; exact set6 y1 _ _ _ _ _ _
    have fr2 : ∀ x, x ≠ w.heap.size + 1 → W2.heap[x]? = W1.heap[x]? := by intro x hx; rw [← hW]; exact heap_st6 _ _ hx _ _ _ _ _ _
    have z2 : Blk W2 (w.heap.size + 2) #[.bool false, .int .i64 0, .slice none 0 0, .slice none 0 0, .int .i64 0, .int .i64 0] 110 := y2.same (fr2 _ (by omega))
    have z0 : Blk W2 w.heap.size #[.int .i64 4, .int .i64 a, .int .i64 b, .slice ad sn cap] 24 := y0.same (fr2 _ (by omega))
    have hzW2 : W2.heap.size = W1.heap.size := by rw [← hW]; simp only [size_setCell]
    clear hW
    have hz2 : w.heap.size + 3 ≤ W2.heap.size := by omega
    have HZW := Lib.hid hzW2
    clear hzW2
    obtain ⟨bl, off, rfl, hbl, hcg⟩ := HSS.out.at' (by simp)
    obtain ⟨k2, a2, b2, t2, ad2, cap2, c0, c1, c2, c3, hg2⟩ := hcg 0 (by simp)
    clear hcg
    simp only [Nat.zero_mul, Nat.add_zero] at c0 c1 c2 c3
    simp only [List.getElem_cons_zero] at hg2
    have HG2 := Lib.hid hg2
    clear hg2
    have g0 := z0.cell 0
    have g1 := z0.cell 1
    have g2 := z0.cell 2
    have g3 := z0.cell 3
    simp only [List.getElem?_toArray, List.getElem?_cons_succ, List.getElem?_cons_zero] at g0 g1 g2 g3
    go_wp2_with fail
    clear g0 g1 g2 g3
    go_loopw [10, 11] (fun o i wr => ∃ j : Nat, j ≤ cn ∧ i = .int .i64 j ∧ Hid (OwnGs w wr W2.heap.size o (List.replicate j y)) ∧ Below W2.heap.size W2 wr) (fun _ i _ => cn - (intOf i).toNat)
    case atStart => exact ⟨0, by omega, rfl, OwnGs.nil _ _ _, Below.refl _ _⟩
    case round =>
      obtain ⟨j, hj, rfl, HOW, hbr⟩ := hrel
      have hzr := hbr.size
      by_cases hlt : j < cn
      · have hl : (j : Int) < (cn : Int) := by omega
        have zr := z0.ext hbr
        have g0 := zr.cell 0
        have g1 := zr.cell 1
        have g2 := zr.cell 2
        have g3 := zr.cell 3
        simp only [List.getElem?_toArray, List.getElem?_cons_succ, List.getElem?_cons_zero] at g0 g1 g2 g3
        have hwr : Below w.heap.size w wr := hB2.trans (hbr.mono hB2.size)
        have d0 := (hwr.cell (p := ⟨bl, _, none⟩) hbl).trans c0
        have d1 := (hwr.cell (p := ⟨bl, _, none⟩) hbl).trans c1
        have d2 := (hwr.cell (p := ⟨bl, _, none⟩) hbl).trans c2
        have d3 := (hwr.cell (p := ⟨bl, _, none⟩) hbl).trans c3
        have hblr : bl < wr.heap.size := by have := hwr.size; omega
        have hlw : w.heap.size < wr.heap.size := by omega
        go_wp2_with (at_builtin; refine append_gens (w0 := w) (m := [y]) (o := ⟨some 96, _, _, _, _, _⟩) rfl _ _ rfl rfl (HOW.out.ext (by repeat (first | with_reducible assumption | with_reducible exact Below.refl _ _ | with_reducible apply Below.drew | (with_reducible refine Below.alloc ?_ (by first | omega | (simp only [zA, zS, zD, zN]; omega) | (dsimp only; omega) | (simp only [zA, zS, zD, zN]; dsimp only; omega)) _) | (with_reducible refine Below.setCell ?_ (by first | omega | (simp only [zA, zS, zD, zN]; omega) | (dsimp only; omega) | (simp only [zA, zS, zD, zN]; dsimp only; omega)) _) | (with_reducible apply below_drewN)))) rfl (.inr ⟨⟨wr.heap.size, 0, none⟩, 1, rfl, World.news_of_block (Blk.new _ _ _)⟩) (CellsOf.one HG2.out) (by simp; omega) (by simp; omega) ?_; intro v6 w6 h1 h2 h3 h4; have hlo := (fun b e => (HOW.out.form2 b e)); have hB6 : Below W2.heap.size W2 w6 := (hbr.trans ((Below.refl _ _).alloc (by omega) _)).grown h2 (by simp; omega) (fun k hk => by have := hlo _ hk; omega); clear h2 h3 h4 hlo)
        have h1' : Hid (OwnGs w w6 W2.heap.size v6 (List.replicate (j + 1) y)) := by show OwnGs _ _ _ _ _; rw [List.replicate_succ']; exact h1
        clear h1
        go_wp2_with fail
        exact ⟨⟨j + 1, by omega, by go_num, h1', hB6⟩, by simp [intOf]; omega⟩
      · have hlx : ¬ (j : Int) < (cn : Int) := by omega
        obtain rfl : j = cn := by omega
        obtain ⟨gad, gcap, he, hf1, hf2, hf3, hgs, hlo⟩ := HOW.out.form
        rw [List.length_replicate] at he
        have HGW := Lib.hid hgs
        have HLO := Lib.hid hlo
        subst he
        clear hgs hlo hf1 hf2 hf3 hlt HOW
        have hBP : Below w.heap.size w wr := hB2.trans (hbr.mono hB2.size)
        have m1 := z1.ext hbr
        have m2 := z2.ext hbr
        have zr := z0.ext hbr
        have g0 := zr.cell 0
        have g1 := zr.cell 1
        have g2 := zr.cell 2
        have g3 := zr.cell 3
        simp only [List.getElem?_toArray, List.getElem?_cons_succ, List.getElem?_cons_zero] at g0 g1 g2 g3
        have HS1W : Hid (IntsS wr (fun x => W0.heap.size ≤ x ∧ x < W1.heap.size) (.slice ad1 tape1.length cap1) tape1) := IntsS.reads.keep HS1.out (by have := HZW.out; omega) (fun x hx hl => ⟨⟨hx, hl⟩, (hbr.block x (by have := HZW.out; omega)).trans (fr2 x (by omega))⟩)
        go_upto_region 23 with (fail)
        generalize hWL : wr.alloc (.cells #[.bool true, .int .i64 0, .slice none 0 0] 45) = WL
        obtain ⟨B3, hB3⟩ : ∃ B3, B3 = wr.heap.size := ⟨_, rfl⟩
        rw [← hB3]
        have HB3a : Hid (w.heap.size + 3 ≤ B3) := by show _ ≤ _; omega
        have HB3b : Hid (B3 < WL.heap.size) := by show _ < _; rw [← hWL]; simp; omega
        have HBL : Hid (Below w.heap.size w WL) := by show Below _ _ _; rw [← hWL]; exact hBP.alloc (by omega) _
        have L2 : Hid (Blk WL (w.heap.size + 2) #[.bool false, .int .i64 0, .slice none 0 0, .slice none 0 0, .int .i64 0, .int .i64 0] 110) := by show Blk _ _ _ _; rw [← hWL]; exact m2.alloc _
        have HMP : Hid (PlM w WL B3 #[.bool vl, .int .i64 vn, .slice vad vk vcap, .slice ad1 (tape1.length) cap1, .int .i64 (q1 : Nat), .int .i64 0] (.slice none 0 0) WL) := ⟨HBL.out, Nat.le_refl _, fun _ _ _ _ => rfl, by rw [← hWL]; exact m1.alloc _, by rw [← hWL, hB3]; exact Blk.new _ _ _⟩
        obtain ⟨sl, hsle⟩ : ∃ sl : List GT, sl = List.replicate j y := ⟨_, rfl⟩
        obtain ⟨sln, hslne⟩ : ∃ sln, sln = j := ⟨_, rfl⟩
        have hsl : Hid (sln = sl.length) := by show _ = _; rw [hslne, hsle]; simp
        have hs1 : sln ≤ 1000 := by omega
        have HSGF : Hid (∀ x, Value.ownBlock (.slice gad j gcap) = some x → x ≠ w.heap.size + 1 ∧ x ≠ w.heap.size + 2 ∧ x ≠ B3) := fun x hx => by
          have := HLO.out x hx
          exact ⟨by omega, by omega, by omega⟩
        have HGS0 : Hid (GsAt w WL (fun x => Value.ownBlock (.slice gad j gcap) = some x) gad sl) := by
          show GsAt _ _ _ _ _
          rw [hsle, ← hWL]
          exact HGW.out.ext (by repeat (first | with_reducible assumption | with_reducible exact Below.refl _ _ | with_reducible apply Below.drew | (with_reducible refine Below.alloc ?_ (by first | omega | (simp only [zA, zS, zD, zN]; omega) | (dsimp only; omega) | (simp only [zA, zS, zD, zN]; dsimp only; omega)) _) | (with_reducible refine Below.setCell ?_ (by first | omega | (simp only [zA, zS, zD, zN]; omega) | (dsimp only; omega) | (simp only [zA, zS, zD, zN]; dsimp only; omega)) _) | (with_reducible apply below_drewN)))
        obtain ⟨Sg, hSg⟩ : ∃ Sg : Nat → Prop, Sg = fun x => Value.ownBlock (.slice gad j gcap) = some x := ⟨_, rfl⟩
        rw [← hSg] at HGS0
        have HGS := HGS0
        have HSG : Hid (∀ x, Sg x → x ≠ w.heap.size + 1 ∧ x ≠ w.heap.size + 2 ∧ x ≠ B3) := fun x hx => HSGF.out x (by rw [hSg] at hx; exact hx)
        have IHL : Hid (PlayedIH mend l sl) := by intro x hx; rw [hsle] at hx; obtain rfl := List.eq_of_mem_replicate hx; exact IH.out x (by simp)
        have HKS : Hid (∀ x ∈ sl, GT.eachErr x = 0) := by intro x hx; rw [hsle] at hx; obtain rfl := List.eq_of_mem_replicate hx; exact HKS1.out
        have HST0 : PlSt w WL B3 S mend l sl R 0 (.slice ad1 tape1.length cap1) (q1 : Nat) 0 (.slice none 0 0) WL := by
          refine Or.inl ⟨rfl, tape1, q1, fun _ => False, [], [], rfl, ⟨rfl, Items.nil _ _, fun x h => h.elim, IntsS.reads.keep HS1W.out (by rw [← hWL]; simp) (fun x hx hl => ⟨⟨.inr (by omega), by omega, by omega, by have := HZW.out; omega, by simp [Value.ownBlock]⟩, by rw [← hWL]; exact Below.heap_alloc wr _ x hl⟩), ?_, ?_, ?_⟩⟩
          · rw [List.drop_zero, hsle, costL_rep]; exact HQB.out
          · rw [List.drop_zero, hsle, costL_rep]; exact HTB.out
          · rw [HRX.out, app_nil, hsle]; show asList _ = asList _; rw [Int.toNat_natCast]; rfl
        rw [← hslne]
        clear hWL hB3 m1 m2 z0 z1 z2 fr2 HR HT hBP hB2 hsle HGW HLO HSGF HGS0 hSg IH HKS1 HRX x0 x1 x2 y0 y1 y2 hb HM1 HST HS1W HS1 HQB HTB hbr zr g0 g1 g2 g3 c0 c1 c2 c3 HG2 HSS
        go_wp2_with fail
        go_loopw [13] (fun i wr => ∃ (j : Nat) (vl1 : Bool) (vn1 : Int) (vad1 : Option Addr) (vk1 vcap1 tn1 tc1 : Nat) (tad1 : Option Addr) (at1 er1 : Int) (iv1 : Value), j ≤ sln ∧ i = .int .i64 j ∧ Hid (PlM w WL B3 #[.bool vl1, .int .i64 vn1, .slice vad1 vk1 vcap1, .slice tad1 tn1 tc1, .int .i64 at1, .int .i64 er1] iv1 wr) ∧ PlSt w WL B3 S mend l sl R j (.slice tad1 tn1 tc1) at1 er1 iv1 wr) (fun i _ => sln - (intOf i).toNat)
        case atStart => exact ⟨0, _, _, _, _, _, _, _, _, _, _, _, by omega, rfl, HMP, HST0⟩
        case round =>
          obtain ⟨j, vl1, vn1, vad1, vk1, vcap1, tn1, tc1, tad1, at1, er1, iv1, hj, rfl, HM, HS1⟩ := hrel
          have hzr := HM.out.siz
          have hb3a := HB3a.out
          have hb3b := HB3b.out
          by_cases hlt : j < sln
          · have p0 : (0 : Int) ≤ (j : Int) := by omega
            have p1' : (j : Int) < (sln : Int) := by omega
            have hlt' : j < sl.length := by have := hsl.out; omega
            obtain ⟨bl, off, rfl, hbl, hsb, hcg⟩ := HGS.out.at' (by omega)
            obtain ⟨k2, a2, b2, t2, ad2, cap2, c0', c1', c2', c3', hg2⟩ := hcg j hlt'
            obtain ⟨n1, n2, n3⟩ := HSG.out bl hsb
            have hbk := HM.out.fr bl hbl n1 n3
            have hce : ∀ x, wr.cell? ⟨bl, x, none⟩ = WL.cell? ⟨bl, x, none⟩ := fun x => World.cell?_of_block (a := ⟨bl, x, none⟩) hbk
            have c0 := (hce _).trans c0'
            have c1 := (hce _).trans c1'
            have c2 := (hce _).trans c2'
            have c3 := (hce _).trans c3'
            have hbr : bl < wr.heap.size := by omega
            have HG2 := Lib.hid hg2
            clear hcg c0' c1' c2' c3' hce hbk hg2
            rcases HS1 with ⟨rfl, tapej, qj, SV, cs, ts, rfl, hok⟩ | ⟨her, hRe, cs, hrow⟩
            · have HOK := Lib.hid hok
              have hcl := GT.costL_drop sl j hlt'
              have hbd := hok.bud
              have hbd2 := hok.bud2
              have CK : Hid (∀ W, Below wr.heap.size wr W → Calls Tryz.prog 66 #[.agg #[.int .i64 k2, .int .i64 a2, .int .i64 b2, .slice ad2 t2 cap2], .agg #[.bool vl1, .int .i64 vn1, .slice vad1 vk1 vcap1, .slice tad1 tn1 tc1, .int .i64 (qj : Nat), .int .i64 0], .slice lad l.length lcap, .bool mend] W (PlaysR W (STp w B3 S iv1) (GT.play (stC mend l) sl[j] (tapej, qj)))) := fun W hW =>
                IHL.out _ (List.getElem_mem hlt') _ _ _ _ _ _ _ _ _ _ _ W (HG2.out.ext (HM.out.bel.trans (hW.mono HM.out.bel.size))) (HLL.out.ext (HM.out.bel.trans (hW.mono HM.out.bel.size))) (IntsS.reads.keep hok.ch hW.size (fun x hx hl => ⟨hx, hW.block x hl⟩)) (by omega) (by omega)
              clear hok HG2
              have hpr := HM.out.p
              have f0 := hpr.cell 0
              have f1 := hpr.cell 1
              have f2 := hpr.cell 2
              have f3 := hpr.cell 3
              have f4 := hpr.cell 4
              have f5 := hpr.cell 5
              simp only [List.getElem?_toArray, List.getElem?_cons_succ, List.getElem?_cons_zero] at f0 f1 f2 f3 f4 f5
              go_wp2_with fail
              refine region_mov (S := fun w' => w'.cell? ⟨bl, off + j * 4, none⟩ = some (.int .i64 k2) ∧ w'.cell? ⟨bl, off + j * 4 + 1, none⟩ = some (.int .i64 a2) ∧ w'.cell? ⟨bl, off + j * 4 + 2, none⟩ = some (.int .i64 b2) ∧ w'.cell? ⟨bl, off + j * 4 + 3, none⟩ = some (.slice ad2 t2 cap2) ∧ w'.cell? ⟨w.heap.size + 1, 0, none⟩ = some (.bool vl1) ∧ w'.cell? ⟨w.heap.size + 1, 1, none⟩ = some (.int .i64 vn1) ∧ w'.cell? ⟨w.heap.size + 1, 2, none⟩ = some (.slice vad1 vk1 vcap1) ∧ w'.cell? ⟨w.heap.size + 1, 3, none⟩ = some (.slice tad1 tn1 tc1) ∧ w'.cell? ⟨w.heap.size + 1, 4, none⟩ = some (.int .i64 (qj : Nat)) ∧ w'.cell? ⟨w.heap.size + 1, 5, none⟩ = some (.int .i64 0)) (n := 8) (ms := [(true, 0), (true, 1), (true, 2), (true, 3), (true, 4), (true, 5), (true, 6), (false, 7), (false, 8)]) (hm := by kernel_rfl) (hB := by kernel_rfl) (hQ := fun c a d v w h => by cases d <;> exact h) ?_
              have HS0 : Hid ((fun w' => w'.cell? ⟨bl, off + j * 4, none⟩ = some (.int .i64 k2) ∧ w'.cell? ⟨bl, off + j * 4 + 1, none⟩ = some (.int .i64 a2) ∧ w'.cell? ⟨bl, off + j * 4 + 2, none⟩ = some (.int .i64 b2) ∧ w'.cell? ⟨bl, off + j * 4 + 3, none⟩ = some (.slice ad2 t2 cap2) ∧ w'.cell? ⟨w.heap.size + 1, 0, none⟩ = some (.bool vl1) ∧ w'.cell? ⟨w.heap.size + 1, 1, none⟩ = some (.int .i64 vn1) ∧ w'.cell? ⟨w.heap.size + 1, 2, none⟩ = some (.slice vad1 vk1 vcap1) ∧ w'.cell? ⟨w.heap.size + 1, 3, none⟩ = some (.slice tad1 tn1 tc1) ∧ w'.cell? ⟨w.heap.size + 1, 4, none⟩ = some (.int .i64 (qj : Nat)) ∧ w'.cell? ⟨w.heap.size + 1, 5, none⟩ = some (.int .i64 0)) wr.drew) := ⟨c0, c1, c2, c3, f0, f1, f2, f3, f4, f5⟩
              iterate 7
                rw [mov_take]
                simp only [List.getElem?_toArray, List.getElem?_cons_succ, List.getElem?_cons_zero]
                refine ⟨?_, .inl ⟨by rfl, ?_⟩, HS0.out, ?_⟩
                rotate_left
                · rintro w' ⟨s0, s1, s2, s3, s4, s5, s6, s7, s8, s9⟩
                  go_simp
                  rfl
                simp only [Act.put, List.setIfInBounds_toArray, List.set_cons_zero, List.set_cons_succ]
              have hWD : Below wr.heap.size wr wr.drew := (Below.refl _ _).drew
              have HWD := Lib.hid hWD
              clear HS0 f0 f1 f2 f3 f4 f5
              have HS : Hid (∀ W', Below wr.heap.size wr W' → (fun w' => w'.cell? ⟨bl, off + j * 4, none⟩ = some (.int .i64 k2) ∧ w'.cell? ⟨bl, off + j * 4 + 1, none⟩ = some (.int .i64 a2) ∧ w'.cell? ⟨bl, off + j * 4 + 2, none⟩ = some (.int .i64 b2) ∧ w'.cell? ⟨bl, off + j * 4 + 3, none⟩ = some (.slice ad2 t2 cap2) ∧ w'.cell? ⟨w.heap.size + 1, 0, none⟩ = some (.bool vl1) ∧ w'.cell? ⟨w.heap.size + 1, 1, none⟩ = some (.int .i64 vn1) ∧ w'.cell? ⟨w.heap.size + 1, 2, none⟩ = some (.slice vad1 vk1 vcap1) ∧ w'.cell? ⟨w.heap.size + 1, 3, none⟩ = some (.slice tad1 tn1 tc1) ∧ w'.cell? ⟨w.heap.size + 1, 4, none⟩ = some (.int .i64 (qj : Nat)) ∧ w'.cell? ⟨w.heap.size + 1, 5, none⟩ = some (.int .i64 0)) W') := fun W' h =>
                ⟨(h.cell (p := ⟨bl, _, none⟩) hbr).trans c0, (h.cell (p := ⟨bl, _, none⟩) hbr).trans c1, (h.cell (p := ⟨bl, _, none⟩) hbr).trans c2, (h.cell (p := ⟨bl, _, none⟩) hbr).trans c3,
                  (hpr.ext h).cell 0, (hpr.ext h).cell 1, (hpr.ext h).cell 2, (hpr.ext h).cell 3, (hpr.ext h).cell 4, (hpr.ext h).cell 5⟩
              have hzd : wr.drew.heap.size = wr.heap.size := rfl
              clear c0 c1 c2 c3 hWD
              generalize wr.drew = WD at *
              rw [mov_step]
              simp only [List.getElem?_toArray, List.getElem?_cons_succ, List.getElem?_cons_zero]
              go_wp2_with fail
              refine (CK.out WD HWD.out).mono ?_
              rintro e V he
              obtain ⟨⟨pv, rfl, hP⟩, hbv⟩ := he
              have hb : Below wr.heap.size wr V := HWD.out.trans (hbv.mono (by omega))
              have hsW : ∀ x : Nat, WD.heap.size ≤ x ↔ wr.heap.size ≤ x := fun x => by rw [hzd]
              obtain ⟨l5, n5, ad5, k5, cap5, tad5, tn5, tc5, at5, x5, rfl⟩ := hP.shape
              have HP : Hid (PlayIn V (fun b => wr.heap.size ≤ b) (fun b => STp w B3 S iv1 b ∨ wr.heap.size ≤ b) (.agg #[.bool l5, .int .i64 n5, .slice ad5 k5 cap5, .slice tad5 tn5 tc5, .int .i64 at5, .int .i64 x5]) (GT.play (stC mend l) sl[j] (tapej, qj))) := hP.keep (Nat.le_refl _) (fun x hx _ => ⟨(hsW x).1 hx, rfl⟩) (fun x hx _ => ⟨hx.imp id (hsW x).1, rfl⟩)
              clear hP hbv hsW CK
              have hpv := hpr.ext hb
              have h0 := hpv.cell 0
              have h1 := hpv.cell 1
              have h2 := hpv.cell 2
              have h3 := hpv.cell 3
              have h4 := hpv.cell 4
              have h5 := hpv.cell 5
              simp only [List.getElem?_toArray, List.getElem?_cons_succ, List.getElem?_cons_zero] at h0 h1 h2 h3 h4 h5
              have u0 := hpv.unfrozen 0
              have u1 := hpv.unfrozen 1
              have u2 := hpv.unfrozen 2
              have u3 := hpv.unfrozen 3
              have u4 := hpv.unfrozen 4
              have u5 := hpv.unfrozen 5
              have HS2 := Lib.hid (HS.out V hb)
              clear HS
              go_wp2_with fail
              refine And.intro (fun _ => HS2.out) ?_
              rw [mov_step]
              simp only [List.getElem?_toArray, List.getElem?_cons_succ, List.getElem?_cons_zero]
              go_wp2_with fail
              refine And.intro (fun h => absurd h (by omega)) ?_
              rw [wpMov]
              clear HS2 h0 h1 h2 h3 h4 h5 u0 u1 u2 u3 u4 u5
              generalize hV1 : ((((((V.setCell ⟨w.heap.size + 1, 0, none⟩ (.bool l5)).setCell ⟨w.heap.size + 1, 1, none⟩ (.int .i64 n5)).setCell ⟨w.heap.size + 1, 2, none⟩ (.slice ad5 k5 cap5)).setCell ⟨w.heap.size + 1, 3, none⟩ (.slice tad5 tn5 tc5)).setCell ⟨w.heap.size + 1, 4, none⟩ (.int .i64 at5)).setCell ⟨w.heap.size + 1, 5, none⟩ (.int .i64 x5)) = V1
              have HV1 := Lib.hid hV1
              have p1 : Blk V1 (w.heap.size + 1) #[.bool l5, .int .i64 n5, .slice ad5 k5 cap5, .slice tad5 tn5 tc5, .int .i64 at5, .int .i64 x5] 110 := by rw [← hV1]; exact set6 hpv _ _ _ _ _ _
              have v1 : Blk V1 B3 #[.bool true, .int .i64 0, iv1] 45 := by
                rw [← hV1]
                exact (HM.out.v.ext hb).same (heap_st6 _ _ (by omega) _ _ _ _ _ _)
              have hz1 : V1.heap.size = V.heap.size := by rw [← hV1]; simp only [size_setCell]
              have hf1 : ∀ x, x ≠ w.heap.size + 1 → V1.heap[x]? = V.heap[x]? := fun x hx => by rw [← hV1]; exact heap_st6 _ _ hx _ _ _ _ _ _
              clear hV1
              have hzV := hb.size
              have HRW : Hid (V1.ownsRow WL.heap.size 45 3 iv1 j cs) := row_keep (by have h := HOK.out.items.own; rw [HOK.out.len] at h; exact h) (fun x hx hl => (hf1 x (by have := World.ownsRow.lt (by have h := HOK.out.items.own; rw [HOK.out.len] at h; exact h) x hx; omega)).trans (hb.block x hl))
              have hivl : ∀ x, iv1.ownBlock = some x → WL.heap.size ≤ x ∧ x < wr.heap.size := World.ownsRow.lt (by have h := HOK.out.items.own; rw [HOK.out.len] at h; exact h)
              have HIV := Lib.hid hivl
              have q0 := p1.cell 0
              have q1 := p1.cell 1
              have q2 := p1.cell 2
              have r2 := v1.cell 2
              simp only [List.getElem?_toArray, List.getElem?_cons_succ, List.getElem?_cons_zero] at q0 q1 q2 r2
              obtain ⟨inf, hi0, hi1, hi2, hi3⟩ := info_value
              have HI0 := Lib.hid hi0
              have HI1 := Lib.hid hi1
              have HI2 := Lib.hid hi2
              have HI3 := Lib.hid hi3
              have hV1l : B3 < V1.heap.size := by omega
              have hV1w : WL.heap.size ≤ V1.heap.size := by omega
              have hV1p : w.heap.size + 1 < V1.heap.size := p1.lt
              have HZ1 := Lib.hid hz1
              clear hz1
              clear hi0 hi1 hi2 hi3 hivl
              go_wp2_with (at_builtin; refine wpList_append_lies (V1.alloc (.cells #[.bool l5, .int .i64 n5, .slice ad5 k5 cap5] 45)) (o := ⟨some 117, _, _, _, _, _⟩) rfl _ _ 43 rfl WL.heap.size 45 inf _ 3 40 Tryz.underlying43 HI0.out HI1.out HI2.out HI3.out rfl (by decide) iv1 j cs rfl (row_keep HRW.out (fun x _ hl => Below.heap_alloc V1 _ x hl)) ⟨V1.heap.size, 0, none⟩ 1 1 [.bool l5, .int .i64 n5, .slice ad5 k5 cap5] rfl rfl (World.news_of_block (Blk.new _ _ _)) (by simp [Value.oneCell']) (by decide) (by unfold maxLen; omega) (by omega) (by simp; omega) (V1.alloc (.cells #[.bool l5, .int .i64 n5, .slice ad5 k5 cap5] 45)).heap.size rfl ?_; intro gi capi w6 how hgr hat hgl; have v6 : Blk w6 B3 #[.bool true, .int .i64 0, iv1] 45 := (hgr.block B3 (by simp; omega) (fun e => by have := HIV.out _ e.symm; omega)).trans (v1.alloc _); have y2 := v6.cell 2; have uu2 := v6.unfrozen 2; simp only [List.getElem?_toArray, List.getElem?_cons_succ, List.getElem?_cons_zero] at y2)
              have hgr' := hgr
              rw [← HV1.out] at hgr'
              obtain ⟨hMN, hz6, hf6⟩ := HM.out.next (iv' := .slice (some ⟨gi, 0, none⟩) (j + 1) capi) HB3a.out HB3b.out hb HIV.out hgr' rfl
              have hz1 := HZ1.out
              have HRW2 : Hid ((w6.setCell ⟨B3, 2, none⟩ (.slice (some ⟨gi, 0, none⟩) (j + 1) capi)).ownsRow WL.heap.size 45 3 (.slice (some ⟨gi, 0, none⟩) (j + 1) capi) (j + 1) (cs ++ [.bool l5, .int .i64 n5, .slice ad5 k5 cap5])) := row_keep how (fun x hx hl => Below.heap_setCell _ _ _ _ (by have := World.ownsRow.lt how x hx; dsimp only; omega))
              have hgw : (V1.alloc (.cells #[.bool l5, .int .i64 n5, .slice ad5 k5 cap5] 45)).heap.size = V.heap.size + 1 := by simp; omega
              have hnx := HOK.out.next HB3a.out HB3b.out HM.out.siz HBL.out.size hlt' (HKS.out _ (List.getElem_mem hlt')) hb HP.out how hz6 hf6 hgw (fun x hx h1 => (Below.heap_alloc V1 _ x (by omega)).trans (hf1 x h1)) hgr (by
                rcases hat with e | e
                · exact .inl e.symm
                · exact .inr (by rw [← e]; rfl))
              have HNX := Lib.hid hnx
              have HMN := Lib.hid hMN
              clear hnx hMN hgr hgr' how hat hf6 hf1 hz1 hgw
              go_wp2_with fail
              refine ⟨⟨j + 1, _, _, _, _, _, _, _, _, _, _, _, by omega, by go_num, HMN, ?_⟩, by simp [intOf]; omega⟩
              rcases HNX.out with ⟨e1, tp, qq, SV2, cs2, ts2, e2, h2⟩ | ⟨e1, e2⟩
              · exact Or.inl ⟨e1, tp, qq, SV2, cs2, ts2, e2, h2⟩
              · exact Or.inr ⟨e1, e2, cs ++ [.bool l5, .int .i64 n5, .slice ad5 k5 cap5], HRW2.out⟩
            · have HRO := Lib.hid hrow
              have HNE := Lib.hid her
              have HRE := Lib.hid hRe
              have HCE : Hid (∀ W, Calls Tryz.prog 66 #[.agg #[.int .i64 k2, .int .i64 a2, .int .i64 b2, .slice ad2 t2 cap2], .agg #[.bool vl1, .int .i64 vn1, .slice vad1 vk1 vcap1, .slice tad1 tn1 tc1, .int .i64 at1, .int .i64 er1], .slice lad l.length lcap, .bool mend] W fun e w' => e = .returned (.agg #[.bool vl1, .int .i64 vn1, .slice vad1 vk1 vcap1, .slice tad1 tn1 tc1, .int .i64 at1, .int .i64 er1]) ∧ Below W.heap.size W w') := fun W => rplayed_err her ⟨_, _, _, rfl⟩
              clear hrow her hRe HG2
              have hpr := HM.out.p
              have f0 := hpr.cell 0
              have f1 := hpr.cell 1
              have f2 := hpr.cell 2
              have f3 := hpr.cell 3
              have f4 := hpr.cell 4
              have f5 := hpr.cell 5
              simp only [List.getElem?_toArray, List.getElem?_cons_succ, List.getElem?_cons_zero] at f0 f1 f2 f3 f4 f5
              go_wp2_with fail
              refine region_mov (S := fun w' => w'.cell? ⟨bl, off + j * 4, none⟩ = some (.int .i64 k2) ∧ w'.cell? ⟨bl, off + j * 4 + 1, none⟩ = some (.int .i64 a2) ∧ w'.cell? ⟨bl, off + j * 4 + 2, none⟩ = some (.int .i64 b2) ∧ w'.cell? ⟨bl, off + j * 4 + 3, none⟩ = some (.slice ad2 t2 cap2) ∧ w'.cell? ⟨w.heap.size + 1, 0, none⟩ = some (.bool vl1) ∧ w'.cell? ⟨w.heap.size + 1, 1, none⟩ = some (.int .i64 vn1) ∧ w'.cell? ⟨w.heap.size + 1, 2, none⟩ = some (.slice vad1 vk1 vcap1) ∧ w'.cell? ⟨w.heap.size + 1, 3, none⟩ = some (.slice tad1 tn1 tc1) ∧ w'.cell? ⟨w.heap.size + 1, 4, none⟩ = some (.int .i64 at1) ∧ w'.cell? ⟨w.heap.size + 1, 5, none⟩ = some (.int .i64 er1)) (n := 8) (ms := [(true, 0), (true, 1), (true, 2), (true, 3), (true, 4), (true, 5), (true, 6), (false, 7), (false, 8)]) (hm := by kernel_rfl) (hB := by kernel_rfl) (hQ := fun c a d v w h => by cases d <;> exact h) ?_
              have HS0 : Hid ((fun w' => w'.cell? ⟨bl, off + j * 4, none⟩ = some (.int .i64 k2) ∧ w'.cell? ⟨bl, off + j * 4 + 1, none⟩ = some (.int .i64 a2) ∧ w'.cell? ⟨bl, off + j * 4 + 2, none⟩ = some (.int .i64 b2) ∧ w'.cell? ⟨bl, off + j * 4 + 3, none⟩ = some (.slice ad2 t2 cap2) ∧ w'.cell? ⟨w.heap.size + 1, 0, none⟩ = some (.bool vl1) ∧ w'.cell? ⟨w.heap.size + 1, 1, none⟩ = some (.int .i64 vn1) ∧ w'.cell? ⟨w.heap.size + 1, 2, none⟩ = some (.slice vad1 vk1 vcap1) ∧ w'.cell? ⟨w.heap.size + 1, 3, none⟩ = some (.slice tad1 tn1 tc1) ∧ w'.cell? ⟨w.heap.size + 1, 4, none⟩ = some (.int .i64 at1) ∧ w'.cell? ⟨w.heap.size + 1, 5, none⟩ = some (.int .i64 er1)) wr.drew) := ⟨c0, c1, c2, c3, f0, f1, f2, f3, f4, f5⟩
              iterate 7
                rw [mov_take]
                simp only [List.getElem?_toArray, List.getElem?_cons_succ, List.getElem?_cons_zero]
                refine ⟨?_, .inl ⟨by rfl, ?_⟩, HS0.out, ?_⟩
                rotate_left
                · rintro w' ⟨s0, s1, s2, s3, s4, s5, s6, s7, s8, s9⟩
                  go_simp
                  rfl
                simp only [Act.put, List.setIfInBounds_toArray, List.set_cons_zero, List.set_cons_succ]
              have hWD : Below wr.heap.size wr wr.drew := (Below.refl _ _).drew
              have HWD := Lib.hid hWD
              clear HS0 f0 f1 f2 f3 f4 f5
              have HS : Hid (∀ W', Below wr.heap.size wr W' → (fun w' => w'.cell? ⟨bl, off + j * 4, none⟩ = some (.int .i64 k2) ∧ w'.cell? ⟨bl, off + j * 4 + 1, none⟩ = some (.int .i64 a2) ∧ w'.cell? ⟨bl, off + j * 4 + 2, none⟩ = some (.int .i64 b2) ∧ w'.cell? ⟨bl, off + j * 4 + 3, none⟩ = some (.slice ad2 t2 cap2) ∧ w'.cell? ⟨w.heap.size + 1, 0, none⟩ = some (.bool vl1) ∧ w'.cell? ⟨w.heap.size + 1, 1, none⟩ = some (.int .i64 vn1) ∧ w'.cell? ⟨w.heap.size + 1, 2, none⟩ = some (.slice vad1 vk1 vcap1) ∧ w'.cell? ⟨w.heap.size + 1, 3, none⟩ = some (.slice tad1 tn1 tc1) ∧ w'.cell? ⟨w.heap.size + 1, 4, none⟩ = some (.int .i64 at1) ∧ w'.cell? ⟨w.heap.size + 1, 5, none⟩ = some (.int .i64 er1)) W') := fun W' h =>
                ⟨(h.cell (p := ⟨bl, _, none⟩) hbr).trans c0, (h.cell (p := ⟨bl, _, none⟩) hbr).trans c1, (h.cell (p := ⟨bl, _, none⟩) hbr).trans c2, (h.cell (p := ⟨bl, _, none⟩) hbr).trans c3,
                  (hpr.ext h).cell 0, (hpr.ext h).cell 1, (hpr.ext h).cell 2, (hpr.ext h).cell 3, (hpr.ext h).cell 4, (hpr.ext h).cell 5⟩
              have hzd : wr.drew.heap.size = wr.heap.size := rfl
              clear c0 c1 c2 c3 hWD
              generalize wr.drew = WD at *
              rw [mov_step]
              simp only [List.getElem?_toArray, List.getElem?_cons_succ, List.getElem?_cons_zero]
              go_wp2_with fail
              refine (HCE.out WD).mono ?_
              rintro e V ⟨rfl, hbv⟩
              have hb : Below wr.heap.size wr V := HWD.out.trans (hbv.mono (by omega))
              clear hbv HCE
              have hpv := hpr.ext hb
              have h0 := hpv.cell 0
              have h1 := hpv.cell 1
              have h2 := hpv.cell 2
              have h3 := hpv.cell 3
              have h4 := hpv.cell 4
              have h5 := hpv.cell 5
              simp only [List.getElem?_toArray, List.getElem?_cons_succ, List.getElem?_cons_zero] at h0 h1 h2 h3 h4 h5
              have u0 := hpv.unfrozen 0
              have u1 := hpv.unfrozen 1
              have u2 := hpv.unfrozen 2
              have u3 := hpv.unfrozen 3
              have u4 := hpv.unfrozen 4
              have u5 := hpv.unfrozen 5
              have HS2 := Lib.hid (HS.out V hb)
              clear HS
              go_wp2_with fail
              refine And.intro (fun _ => HS2.out) ?_
              rw [mov_step]
              simp only [List.getElem?_toArray, List.getElem?_cons_succ, List.getElem?_cons_zero]
              go_wp2_with fail
              refine And.intro (fun h => absurd h (by omega)) ?_
              rw [wpMov]
              clear HS2 h0 h1 h2 h3 h4 h5 u0 u1 u2 u3 u4 u5
              generalize hV1 : ((((((V.setCell ⟨w.heap.size + 1, 0, none⟩ (.bool vl1)).setCell ⟨w.heap.size + 1, 1, none⟩ (.int .i64 vn1)).setCell ⟨w.heap.size + 1, 2, none⟩ (.slice vad1 vk1 vcap1)).setCell ⟨w.heap.size + 1, 3, none⟩ (.slice tad1 tn1 tc1)).setCell ⟨w.heap.size + 1, 4, none⟩ (.int .i64 at1)).setCell ⟨w.heap.size + 1, 5, none⟩ (.int .i64 er1)) = V1
              have HV1 := Lib.hid hV1
              have p1 : Blk V1 (w.heap.size + 1) #[.bool vl1, .int .i64 vn1, .slice vad1 vk1 vcap1, .slice tad1 tn1 tc1, .int .i64 at1, .int .i64 er1] 110 := by rw [← hV1]; exact set6 hpv _ _ _ _ _ _
              have v1 : Blk V1 B3 #[.bool true, .int .i64 0, iv1] 45 := by
                rw [← hV1]
                exact (HM.out.v.ext hb).same (heap_st6 _ _ (by omega) _ _ _ _ _ _)
              have hz1 : V1.heap.size = V.heap.size := by rw [← hV1]; simp only [size_setCell]
              have hf1 : ∀ x, x ≠ w.heap.size + 1 → V1.heap[x]? = V.heap[x]? := fun x hx => by rw [← hV1]; exact heap_st6 _ _ hx _ _ _ _ _ _
              clear hV1
              have hzV := hb.size
              have HRW : Hid (V1.ownsRow WL.heap.size 45 3 iv1 j cs) := row_keep HRO.out (fun x hx hl => (hf1 x (by have := World.ownsRow.lt HRO.out x hx; omega)).trans (hb.block x hl))
              have hivl : ∀ x, iv1.ownBlock = some x → WL.heap.size ≤ x ∧ x < wr.heap.size := World.ownsRow.lt HRO.out
              have HIV := Lib.hid hivl
              have q0 := p1.cell 0
              have q1 := p1.cell 1
              have q2 := p1.cell 2
              have r2 := v1.cell 2
              simp only [List.getElem?_toArray, List.getElem?_cons_succ, List.getElem?_cons_zero] at q0 q1 q2 r2
              obtain ⟨inf, hi0, hi1, hi2, hi3⟩ := info_value
              have HI0 := Lib.hid hi0
              have HI1 := Lib.hid hi1
              have HI2 := Lib.hid hi2
              have HI3 := Lib.hid hi3
              have hV1l : B3 < V1.heap.size := by omega
              have hV1w : WL.heap.size ≤ V1.heap.size := by omega
              have hV1p : w.heap.size + 1 < V1.heap.size := p1.lt
              have HZ1 := Lib.hid hz1
              clear hz1
              clear hi0 hi1 hi2 hi3 hivl
              go_wp2_with (at_builtin; refine wpList_append_lies (V1.alloc (.cells #[.bool vl1, .int .i64 vn1, .slice vad1 vk1 vcap1] 45)) (o := ⟨some 117, _, _, _, _, _⟩) rfl _ _ 43 rfl WL.heap.size 45 inf _ 3 40 Tryz.underlying43 HI0.out HI1.out HI2.out HI3.out rfl (by decide) iv1 j cs rfl (row_keep HRW.out (fun x _ hl => Below.heap_alloc V1 _ x hl)) ⟨V1.heap.size, 0, none⟩ 1 1 [.bool vl1, .int .i64 vn1, .slice vad1 vk1 vcap1] rfl rfl (World.news_of_block (Blk.new _ _ _)) (by simp [Value.oneCell']) (by decide) (by unfold maxLen; omega) (by omega) (by simp; omega) (V1.alloc (.cells #[.bool vl1, .int .i64 vn1, .slice vad1 vk1 vcap1] 45)).heap.size rfl ?_; intro gi capi w6 how hgr hat hgl; have v6 : Blk w6 B3 #[.bool true, .int .i64 0, iv1] 45 := (hgr.block B3 (by simp; omega) (fun e => by have := HIV.out _ e.symm; omega)).trans (v1.alloc _); have y2 := v6.cell 2; have uu2 := v6.unfrozen 2; simp only [List.getElem?_toArray, List.getElem?_cons_succ, List.getElem?_cons_zero] at y2)
              have hgr' := hgr
              rw [← HV1.out] at hgr'
              obtain ⟨hMN, hz6, hf6⟩ := HM.out.next (iv' := .slice (some ⟨gi, 0, none⟩) (j + 1) capi) HB3a.out HB3b.out hb HIV.out hgr' rfl
              have HRW2 : Hid ((w6.setCell ⟨B3, 2, none⟩ (.slice (some ⟨gi, 0, none⟩) (j + 1) capi)).ownsRow WL.heap.size 45 3 (.slice (some ⟨gi, 0, none⟩) (j + 1) capi) (j + 1) (cs ++ [.bool vl1, .int .i64 vn1, .slice vad1 vk1 vcap1])) := row_keep how (fun x hx hl => Below.heap_setCell _ _ _ _ (by have := World.ownsRow.lt how x hx; dsimp only; omega))
              have HMN := Lib.hid hMN
              clear hMN hgr hgr' how hat hf6 hf1
              go_wp2_with fail
              exact ⟨⟨j + 1, _, _, _, _, _, _, _, _, _, _, _, by omega, by go_num, HMN, Or.inr ⟨HNE.out, HRE.out, _, HRW2.out⟩⟩, by simp [intOf]; omega⟩
          · have hjl : j = sln := by omega
            rcases HS1 with ⟨rfl, tapej, qj, SV, cs, ts, rfl, hok⟩ | ⟨her, hRe, cs, hrow⟩
            · have HOK := Lib.hid hok
              have HRX : Hid (R = .ok (.mk true 0 ts, (tapej, qj))) := by
                have h := hok.eq
                rw [List.drop_eq_nil_of_le (by have := hsl.out; omega)] at h
                show _ = _
                rw [← h]
                simp [GT.playL, app, asList]
              clear hok hjl
              obtain ⟨adi, capi, rfl⟩ := HOK.out.items.shape
              have hpr := HM.out.p
              have hvr := HM.out.v
              have y2 := L2.out.same (HM.out.fr _ (by omega) (by omega) (by omega))
              have p1' : ¬ (j : Int) < (sln : Int) := by omega
              have hBr := HM.out.bel
              have h0 := hvr.cell 0
              have h1 := hvr.cell 1
              have h2 := hvr.cell 2
              simp only [List.getElem?_toArray, List.getElem?_cons_succ, List.getElem?_cons_zero] at h0 h1 h2
              have d0 := hpr.cell 0
              have d1 := hpr.cell 1
              have d2 := hpr.cell 2
              have d3 := hpr.cell 3
              have d4 := hpr.cell 4
              have d5 := hpr.cell 5
              simp only [List.getElem?_toArray, List.getElem?_cons_succ, List.getElem?_cons_zero] at d0 d1 d2 d3 d4 d5
              have u0 := hpr.unfrozen 0
              have u1 := hpr.unfrozen 1
              have u2 := hpr.unfrozen 2
              have u3 := hpr.unfrozen 3
              have u4 := hpr.unfrozen 4
              have u5 := hpr.unfrozen 5
              go_upto_region 29 with (fail)
              clear d0 d1 d2 d3 d4 d5 u0 u1 u2 u3 u4 u5
              generalize hW : (((wr.setCell ⟨w.heap.size + 1, 0, none⟩ (.bool true)).setCell ⟨w.heap.size + 1, 1, none⟩ (.int .i64 0)).setCell ⟨w.heap.size + 1, 2, none⟩ (.slice adi ts.length capi)) = W1
              have hB1 : Below w.heap.size w W1 := by rw [← hW]; exact ((hBr.setCell (by simp) _).setCell (by simp) _).setCell (by simp) _
              have z1 : Blk W1 (w.heap.size + 1) #[.bool true, .int .i64 0, .slice adi ts.length capi, .slice tad1 tn1 tc1, .int .i64 (qj : Nat), .int .i64 0] 110 := by rw [← hW]; simpa using ((hpr.set 0 (.bool true)).set 1 (.int .i64 0)).set 2 (.slice adi ts.length capi)
              have fr1 : ∀ x, x ≠ w.heap.size + 1 → W1.heap[x]? = wr.heap[x]? := by intro x hx; rw [← hW, Below.heap_setCell _ _ _ _ hx, Below.heap_setCell _ _ _ _ hx, Below.heap_setCell _ _ _ _ hx]
              have z2 : Blk W1 (w.heap.size + 2) #[.bool false, .int .i64 0, .slice none 0 0, .slice none 0 0, .int .i64 0, .int .i64 0] 110 := y2.same (fr1 _ (by omega))
              have hzW1 : W1.heap.size = wr.heap.size := by rw [← hW]; simp only [size_setCell]
              clear hW
              clear h0 h1 h2
              have d0 := z1.cell 0
              have d1 := z1.cell 1
              have d2 := z1.cell 2
              have d3 := z1.cell 3
              have d4 := z1.cell 4
              have d5 := z1.cell 5
              simp only [List.getElem?_toArray, List.getElem?_cons_succ, List.getElem?_cons_zero] at d0 d1 d2 d3 d4 d5
              have e0 := z2.cell 0
              have e1 := z2.cell 1
              have e2 := z2.cell 2
              have e3 := z2.cell 3
              have e4 := z2.cell 4
              have e5 := z2.cell 5
              simp only [List.getElem?_toArray, List.getElem?_cons_succ, List.getElem?_cons_zero] at e0 e1 e2 e3 e4 e5
              have u0 := z2.unfrozen 0
              have u1 := z2.unfrozen 1
              have u2 := z2.unfrozen 2
              have u3 := z2.unfrozen 3
              have u4 := z2.unfrozen 4
              have u5 := z2.unfrozen 5
              go_wp2_with fail
              refine bodyPost_ret (v := .agg #[.bool true, .int .i64 0, .slice adi ts.length capi, .slice tad1 tn1 tc1, .int .i64 (qj : Nat), .int .i64 0]) (by simp [results, Tryz.results66, go_sem, d0, d1, d2, d3, d4, d5, e0, e1, e2, e3, e4, e5, u0, u1, u2, u3, u4, u5]) rfl ?_
              have hBF : Below w.heap.size w ((((((W1.setCell ⟨w.heap.size + 2, 0, none⟩ (.bool true)).setCell ⟨w.heap.size + 2, 1, none⟩ (.int .i64 0)).setCell ⟨w.heap.size + 2, 2, none⟩ (.slice adi ts.length capi)).setCell ⟨w.heap.size + 2, 3, none⟩ (.slice tad1 tn1 tc1)).setCell ⟨w.heap.size + 2, 4, none⟩ (.int .i64 (qj : Nat))).setCell ⟨w.heap.size + 2, 5, none⟩ (.int .i64 0)) := below_st6 hB1 (by omega) _ _ _ _ _ _
              have hKF : ∀ x, x ≠ w.heap.size + 2 → ((((((W1.setCell ⟨w.heap.size + 2, 0, none⟩ (.bool true)).setCell ⟨w.heap.size + 2, 1, none⟩ (.int .i64 0)).setCell ⟨w.heap.size + 2, 2, none⟩ (.slice adi ts.length capi)).setCell ⟨w.heap.size + 2, 3, none⟩ (.slice tad1 tn1 tc1)).setCell ⟨w.heap.size + 2, 4, none⟩ (.int .i64 (qj : Nat))).setCell ⟨w.heap.size + 2, 5, none⟩ (.int .i64 0)).heap[x]? = W1.heap[x]? := fun x hx => heap_st6 _ _ hx _ _ _ _ _ _
              have hZF : ((((((W1.setCell ⟨w.heap.size + 2, 0, none⟩ (.bool true)).setCell ⟨w.heap.size + 2, 1, none⟩ (.int .i64 0)).setCell ⟨w.heap.size + 2, 2, none⟩ (.slice adi ts.length capi)).setCell ⟨w.heap.size + 2, 3, none⟩ (.slice tad1 tn1 tc1)).setCell ⟨w.heap.size + 2, 4, none⟩ (.int .i64 (qj : Nat))).setCell ⟨w.heap.size + 2, 5, none⟩ (.int .i64 0)).heap.size = W1.heap.size := by simp only [size_setCell]
              rw [HRX.out]
              have hall : ∀ x, x ≠ w.heap.size + 1 → x ≠ w.heap.size + 2 → ((((((W1.setCell ⟨w.heap.size + 2, 0, none⟩ (.bool true)).setCell ⟨w.heap.size + 2, 1, none⟩ (.int .i64 0)).setCell ⟨w.heap.size + 2, 2, none⟩ (.slice adi ts.length capi)).setCell ⟨w.heap.size + 2, 3, none⟩ (.slice tad1 tn1 tc1)).setCell ⟨w.heap.size + 2, 4, none⟩ (.int .i64 (qj : Nat))).setCell ⟨w.heap.size + 2, 5, none⟩ (.int .i64 0)).heap[x]? = wr.heap[x]? := fun x h1 h2 => (hKF x h2).trans (fr1 x h1)
              have hival := HOK.out.items.lt
              refine ⟨⟨_, rfl, _, _, _, _, _, _, rfl, HOK.out.items.val.keep (by rw [hZF, hzW1]; exact Nat.le_refl _) (fun x hx hl => ?_), IntsS.reads.keep HOK.out.ch (by rw [hZF, hzW1]; exact Nat.le_refl _) (fun x hx hl => ⟨hx.1, hall x hx.2.1 hx.2.2.1⟩)⟩, hBF⟩
              have hx2 : WL.heap.size ≤ x := by
                rcases hx with hx | hx
                · exact (HOK.out.new x hx).1
                · exact (hival x hx).1
              exact ⟨by have := HBL.out.size; omega, hall x (by omega) (by omega)⟩
            · have HNE := Lib.hid her
              have HRE := Lib.hid hRe
              clear her hRe hjl
              obtain ⟨adi, capi, rfl⟩ := row_shape hrow
              clear hrow
              have hpr := HM.out.p
              have hvr := HM.out.v
              have y2 := L2.out.same (HM.out.fr _ (by omega) (by omega) (by omega))
              have p1' : ¬ (j : Int) < (sln : Int) := by omega
              have hBr := HM.out.bel
              have h0 := hvr.cell 0
              have h1 := hvr.cell 1
              have h2 := hvr.cell 2
              simp only [List.getElem?_toArray, List.getElem?_cons_succ, List.getElem?_cons_zero] at h0 h1 h2
              have d0 := hpr.cell 0
              have d1 := hpr.cell 1
              have d2 := hpr.cell 2
              have d3 := hpr.cell 3
              have d4 := hpr.cell 4
              have d5 := hpr.cell 5
              simp only [List.getElem?_toArray, List.getElem?_cons_succ, List.getElem?_cons_zero] at d0 d1 d2 d3 d4 d5
              have u0 := hpr.unfrozen 0
              have u1 := hpr.unfrozen 1
              have u2 := hpr.unfrozen 2
              have u3 := hpr.unfrozen 3
              have u4 := hpr.unfrozen 4
              have u5 := hpr.unfrozen 5
              go_upto_region 29 with (fail)
              clear d0 d1 d2 d3 d4 d5 u0 u1 u2 u3 u4 u5
              generalize hW : (((wr.setCell ⟨w.heap.size + 1, 0, none⟩ (.bool true)).setCell ⟨w.heap.size + 1, 1, none⟩ (.int .i64 0)).setCell ⟨w.heap.size + 1, 2, none⟩ (.slice adi j capi)) = W1
              have hB1 : Below w.heap.size w W1 := by rw [← hW]; exact ((hBr.setCell (by simp) _).setCell (by simp) _).setCell (by simp) _
              have z1 : Blk W1 (w.heap.size + 1) #[.bool true, .int .i64 0, .slice adi j capi, .slice tad1 tn1 tc1, .int .i64 at1, .int .i64 er1] 110 := by rw [← hW]; simpa using ((hpr.set 0 (.bool true)).set 1 (.int .i64 0)).set 2 (.slice adi j capi)
              have fr1 : ∀ x, x ≠ w.heap.size + 1 → W1.heap[x]? = wr.heap[x]? := by intro x hx; rw [← hW, Below.heap_setCell _ _ _ _ hx, Below.heap_setCell _ _ _ _ hx, Below.heap_setCell _ _ _ _ hx]
              have z2 : Blk W1 (w.heap.size + 2) #[.bool false, .int .i64 0, .slice none 0 0, .slice none 0 0, .int .i64 0, .int .i64 0] 110 := y2.same (fr1 _ (by omega))
              have hzW1 : W1.heap.size = wr.heap.size := by rw [← hW]; simp only [size_setCell]
              clear hW
              clear h0 h1 h2
              have d0 := z1.cell 0
              have d1 := z1.cell 1
              have d2 := z1.cell 2
              have d3 := z1.cell 3
              have d4 := z1.cell 4
              have d5 := z1.cell 5
              simp only [List.getElem?_toArray, List.getElem?_cons_succ, List.getElem?_cons_zero] at d0 d1 d2 d3 d4 d5
              have e0 := z2.cell 0
              have e1 := z2.cell 1
              have e2 := z2.cell 2
              have e3 := z2.cell 3
              have e4 := z2.cell 4
              have e5 := z2.cell 5
              simp only [List.getElem?_toArray, List.getElem?_cons_succ, List.getElem?_cons_zero] at e0 e1 e2 e3 e4 e5
              have u0 := z2.unfrozen 0
              have u1 := z2.unfrozen 1
              have u2 := z2.unfrozen 2
              have u3 := z2.unfrozen 3
              have u4 := z2.unfrozen 4
              have u5 := z2.unfrozen 5
              go_wp2_with fail
              refine bodyPost_ret (v := .agg #[.bool true, .int .i64 0, .slice adi j capi, .slice tad1 tn1 tc1, .int .i64 at1, .int .i64 er1]) (by simp [results, Tryz.results66, go_sem, d0, d1, d2, d3, d4, d5, e0, e1, e2, e3, e4, e5, u0, u1, u2, u3, u4, u5]) rfl ?_
              have hBF : Below w.heap.size w ((((((W1.setCell ⟨w.heap.size + 2, 0, none⟩ (.bool true)).setCell ⟨w.heap.size + 2, 1, none⟩ (.int .i64 0)).setCell ⟨w.heap.size + 2, 2, none⟩ (.slice adi j capi)).setCell ⟨w.heap.size + 2, 3, none⟩ (.slice tad1 tn1 tc1)).setCell ⟨w.heap.size + 2, 4, none⟩ (.int .i64 at1)).setCell ⟨w.heap.size + 2, 5, none⟩ (.int .i64 er1)) := below_st6 hB1 (by omega) _ _ _ _ _ _
              have hKF : ∀ x, x ≠ w.heap.size + 2 → ((((((W1.setCell ⟨w.heap.size + 2, 0, none⟩ (.bool true)).setCell ⟨w.heap.size + 2, 1, none⟩ (.int .i64 0)).setCell ⟨w.heap.size + 2, 2, none⟩ (.slice adi j capi)).setCell ⟨w.heap.size + 2, 3, none⟩ (.slice tad1 tn1 tc1)).setCell ⟨w.heap.size + 2, 4, none⟩ (.int .i64 at1)).setCell ⟨w.heap.size + 2, 5, none⟩ (.int .i64 er1)).heap[x]? = W1.heap[x]? := fun x hx => heap_st6 _ _ hx _ _ _ _ _ _
              have hZF : ((((((W1.setCell ⟨w.heap.size + 2, 0, none⟩ (.bool true)).setCell ⟨w.heap.size + 2, 1, none⟩ (.int .i64 0)).setCell ⟨w.heap.size + 2, 2, none⟩ (.slice adi j capi)).setCell ⟨w.heap.size + 2, 3, none⟩ (.slice tad1 tn1 tc1)).setCell ⟨w.heap.size + 2, 4, none⟩ (.int .i64 at1)).setCell ⟨w.heap.size + 2, 5, none⟩ (.int .i64 er1)).heap.size = W1.heap.size := by simp only [size_setCell]
              rw [HRE.out]
              exact ⟨⟨_, rfl, HNE.out, _, _, _, _, _, _, _, _, _, rfl⟩, hBF⟩
end
end Go.Proofs.YtibmnifenfingaaGreatDoor
