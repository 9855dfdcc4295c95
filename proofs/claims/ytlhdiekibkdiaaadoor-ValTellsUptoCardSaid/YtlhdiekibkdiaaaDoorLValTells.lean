/- The walk through the statement ValTells. -/
import Derived.Test.YtlhdiekibkdiaaaDoorLFIVE
import Derived.Test.YtlhdiekibkdiaaaDoorTAs
import Derived.Test.YtlhdiekibkdiaaaDoorRXV
import Derived.Test.YtlhdiekibkdiaaaDoorRVT
import Derived.Test.YtlhdiekibkdiaaaDoorRVC
namespace Go.Proofs.YtlhdiekibkdiaaaDoor
set_option maxRecDepth 100000
open Go.RowKit
set_option linter.unusedSimpArgs false
set_option linter.unusedVariables false
set_option maxHeartbeats 16000000 in
theorem valTells_go (w : World) (hP : PowAt w) (hE : NumErrsAt w) (hG : ErrTypeAt w) {v0 v1 : Value} (a : VT) (o0 : ValAt w v0 a) (ba : VT.wt a ≤ 30000000) (b : VT) (o1 : ValAt w v1 b) (bb : VT.wt b ≤ 30000000) (s : List UInt8) (hs : s.length ≤ 1000000000)
    (t : VT) (is : Bool) (k : Int) (ev : Value)
    (CO : Hid (∀ W, Calls Tryd.prog 23 #[.string ⟨s.toArray⟩] W fun e w' => (∃ v, e = .returned (.tuple #[v, .bool is]) ∧ ValAt w' v t) ∧ Below W.heap.size W w'))
    (CP : Hid (∀ W, PowAt W → NumErrsAt W → Calls Tryd.prog 24 #[.string ⟨s.toArray⟩] W fun e w' => (∃ v, e = .returned (.tuple #[v, ev]) ∧ ValAt w' v t) ∧ Below W.heap.size W w'))
    (CE : Hid (∀ W, ErrTypeAt W → Calls Tryd.prog 14 #[ev, .int .i64 k] W fun e w' => e = .returned (.bool true) ∧ Below W.heap.size W w'))
    (hk : (is = true ∧ k = 0) ∨ (is = false ∧ k = 3)) :
    Calls Tryd.prog 5 #[v0, v1, .string ⟨s.toArray⟩] w fun e w' => e = .returned (.bool true) ∧ Below w.heap.size w w' := by
  have CCA := Lib.hid (valCheck_any a)
  have tla := VT.text_wt a o0.nums
  have tlb := VT.text_wt b o1.nums
  have CTA := Lib.hid (fun W hp (h : ValAt W v0 a) => text_any a v0 W hp h (by omega) (by omega))
  have CRA := Lib.hid (fun W (h : ValAt W v0 a) => rvtext_any a v0 W h (by omega))
  have CRB := Lib.hid (fun W (h : ValAt W v1 b) => rvtext_any b v1 W h (by omega))
  have CSS := Lib.hid (fun W hp (h : ValAt W v0 a) (h2 : ValAt W v1 b) => samev_any a b v0 v1 W hp h h2 (by omega) (by omega))
  obtain ⟨l0, n0, k0, g0, c0, rfl⟩ := o0.shape
  obtain ⟨l1, n1, k1, g1, c1, rfl⟩ := o1.shape
  have HP := Lib.hid hP
  have HE := Lib.hid hE
  have HG := Lib.hid hG
  have HA := Lib.hid o0
  have HWV := Lib.hid o1
  clear hP hE hG o0 o1 tla tlb
  generalize VT.text a = ta at *
  generalize VT.text b = tb at *
  rcases hk with ⟨rfl, rfl⟩ | ⟨rfl, rfl⟩
  ·
    go_enter Tryd.func5, Tryd.ntmps5
    go_wp2_with fail
    generalize hW0 : ((w.alloc (.cells #[.bool l0, .int .i64 n0, .slice g0 k0 c0] 34)).alloc (.cells #[.bool l1, .int .i64 n1, .slice g1 k1 c1] 34)) = W0
    have hB0 : Below w.heap.size w W0 := by rw [← hW0]; repeat (first | with_reducible assumption | with_reducible exact Below.refl _ _ | with_reducible apply Below.drew | (with_reducible refine Below.alloc ?_ (by first | omega | (simp only [zA, zS, zD, zN]; omega) | (dsimp only; omega) | (simp only [zA, zS, zD, zN]; dsimp only; omega)) _) | (with_reducible refine Below.setCell ?_ (by first | omega | (simp only [zA, zS, zD, zN]; omega) | (dsimp only; omega) | (simp only [zA, zS, zD, zN]; dsimp only; omega)) _) | (with_reducible apply below_drewN))
    have X0 : Blk W0 (w.heap.size) #[.bool l0, .int .i64 n0, .slice g0 k0 c0] 34 := by rw [← hW0]; exact ((Blk.new w #[.bool l0, .int .i64 n0, .slice g0 k0 c0] 34)).alloc _
    have X1 : Blk W0 (w.heap.size + 1) #[.bool l1, .int .i64 n1, .slice g1 k1 c1] 34 := by rw [← hW0]; exact (show Blk ((w.alloc (.cells #[.bool l0, .int .i64 n0, .slice g0 k0 c0] 34)).alloc (.cells #[.bool l1, .int .i64 n1, .slice g1 k1 c1] 34)) (w.heap.size + 1) _ _ by simpa using Blk.new (w.alloc (.cells #[.bool l0, .int .i64 n0, .slice g0 k0 c0] 34)) #[.bool l1, .int .i64 n1, .slice g1 k1 c1] 34)
    clear hW0
    refine (five_fact _ (HP.out.ext hB0) (HE.out.ext hB0)).mono ?_
    rintro e W1 ⟨rfl, hb⟩
    have hB1 : Below w.heap.size w W1 := hB0.trans (hb.mono hB0.size)
    have X0 := X0.ext hb
    have X1 := X1.ext hb
    clear hb hB0
    have f0_0 := X0.cell 0
    have f0_1 := X0.cell 1
    have f0_2 := X0.cell 2
    simp only [List.getElem?_toArray, List.getElem?_cons_succ, List.getElem?_cons_zero] at f0_0 f0_1 f0_2
    go_wp2_with fail
    refine (rvfault_any a 0 _ _ (by omega) (HA.out.ext hB1)).mono ?_
    rintro e W2 ⟨rfl, hb⟩
    clear f0_0 f0_1 f0_2
    have hB2 : Below w.heap.size w W2 := hB1.trans (hb.mono hB1.size)
    have X0 := X0.ext hb
    have X1 := X1.ext hb
    clear hb hB1
    generalize VT.chk a 0 = ca at *
    have f0_0 := X0.cell 0
    have f0_1 := X0.cell 1
    have f0_2 := X0.cell 2
    simp only [List.getElem?_toArray, List.getElem?_cons_succ, List.getElem?_cons_zero] at f0_0 f0_1 f0_2
    go_wp2_with fail
    refine (CCA.out _ _ (HA.out.ext hB2)).mono ?_
    rintro e W3 ⟨rfl, hb⟩
    clear f0_0 f0_1 f0_2
    have hB3 : Below w.heap.size w W3 := hB2.trans (hb.mono hB2.size)
    have X0 := X0.ext hb
    have X1 := X1.ext hb
    clear hb hB2
    go_wp2_with fail
    refine (error_yes ca _ (HG.out.ext hB3)).mono ?_
    rintro e W4 ⟨rfl, hb⟩
    have hB4 : Below w.heap.size w W4 := hB3.trans (hb.mono hB3.size)
    have X0 := X0.ext hb
    have X1 := X1.ext hb
    clear hb hB3
    go_wp2_with fail
    refine (CO.out _).mono ?_
    rintro e W5 ⟨⟨xv, rfl, hxv⟩, hb⟩
    have hB5 : Below w.heap.size w W5 := hB4.trans (hb.mono hB4.size)
    have X0 := X0.ext hb
    have X1 := X1.ext hb
    clear hb hB4
    obtain ⟨xl, xn, xk, xad, xcap, rfl⟩ := hxv.shape
    have hba : Below W5.heap.size W5 (W5.alloc (.cells #[.bool xl, .int .i64 xn, .slice xad xk xcap] 34)) := by repeat (first | with_reducible assumption | with_reducible exact Below.refl _ _ | with_reducible apply Below.drew | (with_reducible refine Below.alloc ?_ (by first | omega | (simp only [zA, zS, zD, zN]; omega) | (dsimp only; omega) | (simp only [zA, zS, zD, zN]; dsimp only; omega)) _) | (with_reducible refine Below.setCell ?_ (by first | omega | (simp only [zA, zS, zD, zN]; omega) | (dsimp only; omega) | (simp only [zA, zS, zD, zN]; dsimp only; omega)) _) | (with_reducible apply below_drewN))
    have hBa : Below w.heap.size w (W5.alloc (.cells #[.bool xl, .int .i64 xn, .slice xad xk xcap] 34)) := hB5.trans (hba.mono hB5.size)
    have X10 := Blk.new W5 #[.bool xl, .int .i64 xn, .slice xad xk xcap] 34
    have hxa := hxv.ext hba
    have X0a := X0.ext hba
    have X1a := X1.ext hba
    have HXV := Lib.hid hxa
    have hz10 : w.heap.size + 1 < W5.heap.size := X1.lt
    obtain ⟨N10, hN10⟩ : ∃ N, N = W5.heap.size := ⟨_, rfl⟩
    rw [← hN10] at X10 hz10
    have HN10 := Lib.hid hN10
    clear hba hxv hxa X0 X1 hB5 hN10
    go_wp2_with fail
    refine (CP.out _ (HP.out.ext hBa) (HE.out.ext hBa)).mono ?_
    rintro e Wp ⟨⟨yv, rfl, hyv⟩, hb⟩
    rw [← HN10.out]
    have hBp : Below w.heap.size w Wp := hBa.trans (hb.mono hBa.size)
    have X10 := X10.ext hb
    have X0 := X0a.ext hb
    have X1 := X1a.ext hb
    have HXV := Lib.hid (HXV.out.ext hb)
    obtain ⟨yl, yn, yk, yad, ycap, rfl⟩ := hyv.shape
    have hbq : Below Wp.heap.size Wp (Wp.alloc (.cells #[.bool yl, .int .i64 yn, .slice yad yk ycap] 34)) := by repeat (first | with_reducible assumption | with_reducible exact Below.refl _ _ | with_reducible apply Below.drew | (with_reducible refine Below.alloc ?_ (by first | omega | (simp only [zA, zS, zD, zN]; omega) | (dsimp only; omega) | (simp only [zA, zS, zD, zN]; dsimp only; omega)) _) | (with_reducible refine Below.setCell ?_ (by first | omega | (simp only [zA, zS, zD, zN]; omega) | (dsimp only; omega) | (simp only [zA, zS, zD, zN]; dsimp only; omega)) _) | (with_reducible apply below_drewN))
    have hBq : Below w.heap.size w (Wp.alloc (.cells #[.bool yl, .int .i64 yn, .slice yad yk ycap] 34)) := hBp.trans (hbq.mono hBp.size)
    have X13 := Blk.new Wp #[.bool yl, .int .i64 yn, .slice yad yk ycap] 34
    have hz13 : N10 < Wp.heap.size := X10.lt
    have X10 := X10.ext hbq
    have X0 := X0.ext hbq
    have X1 := X1.ext hbq
    have HXV := Lib.hid (HXV.out.ext hbq)
    have HYV := Lib.hid (hyv.ext hbq)
    obtain ⟨N13, hN13⟩ : ∃ N, N = Wp.heap.size := ⟨_, rfl⟩
    rw [← hN13] at X13 hz13
    have HN13 := Lib.hid hN13
    clear hb hBa hBp hbq hyv X0a X1a hN13
    go_wp2_with fail
    rw [← HN13.out]
    generalize Wp.alloc (.cells #[.bool yl, .int .i64 yn, .slice yad yk ycap] 34) = Wq at *
    refine (CE.out _ (HG.out.ext hBq)).mono ?_
    rintro e Wr ⟨rfl, hb⟩
    have hBr : Below w.heap.size w Wr := hBq.trans (hb.mono hBq.size)
    have X10 := X10.ext hb
    have X13 := X13.ext hb
    have X0 := X0.ext hb
    have X1 := X1.ext hb
    have HXV := Lib.hid (HXV.out.ext hb)
    have HYV := Lib.hid (HYV.out.ext hb)
    clear hb hBq HN13 HN10
    have x0 := X10.cell 0
    have x1 := X10.cell 1
    have x2 := X10.cell 2
    simp only [List.getElem?_toArray, List.getElem?_cons_succ, List.getElem?_cons_zero] at x0 x1 x2
    have y0 := X13.cell 0
    have y1 := X13.cell 1
    have y2 := X13.cell 2
    simp only [List.getElem?_toArray, List.getElem?_cons_succ, List.getElem?_cons_zero] at y0 y1 y2
    go_wp2_with fail
    refine (value_same t _ _ _ HXV.out HYV.out).mono ?_
    rintro e Ws ⟨rfl, hb⟩
    have hBs : Below w.heap.size w Ws := hBr.trans (hb.mono hBr.size)
    have X0 := X0.ext hb
    have X1 := X1.ext hb
    clear hb hBr x0 x1 x2 y0 y1 y2 X10 X13 HXV HYV
    by_cases hca : ca = 0
    case neg =>
      have p0 : (ca != 0) = true := by simpa using hca
      clear hca
      go_wp2_with fail
      go_ret
      exact ⟨rfl, hBs⟩
    subst hca
    have z0 := X1.cell 0
    have z1 := X1.cell 1
    have z2 := X1.cell 2
    simp only [List.getElem?_toArray, List.getElem?_cons_succ, List.getElem?_cons_zero] at z0 z1 z2
    go_wp2_with fail
    refine (rvfault_any b 0 _ _ (by omega) (HWV.out.ext hBs)).mono ?_
    rintro e Wt ⟨rfl, hb⟩
    have hBt : Below w.heap.size w Wt := hBs.trans (hb.mono hBs.size)
    have X0 := X0.ext hb
    have X1 := X1.ext hb
    clear hb hBs z0 z1 z2
    generalize VT.chk b 0 = cb at *
    by_cases hcb : cb = 0
    case neg =>
      have p0 : (cb != 0) = true := by simpa using hcb
      clear hcb
      go_wp2_with fail
      go_ret
      exact ⟨rfl, hBt⟩
    subst hcb
    go_wp2_with fail
    refine region_mov (S := fun w' => w'.cell? ⟨w.heap.size, 0, none⟩ = some (.bool l0) ∧ w'.cell? ⟨w.heap.size, 1, none⟩ = some (.int .i64 n0) ∧ w'.cell? ⟨w.heap.size, 2, none⟩ = some (.slice g0 k0 c0) ∧ w'.cell? ⟨w.heap.size + 1, 0, none⟩ = some (.bool l1) ∧ w'.cell? ⟨w.heap.size + 1, 1, none⟩ = some (.int .i64 n1) ∧ w'.cell? ⟨w.heap.size + 1, 2, none⟩ = some (.slice g1 k1 c1)) (n := 16) (ms := [(true, 0), (true, 2), (false, 1), (false, 3), (false, 4), (false, 5), (true, 6), (true, 7), (true, 9), (true, 11), (false, 8), (false, 10), (false, 12), (false, 13), (false, 14), (false, 15), (false, 16)]) (hm := by kernel_rfl) (hB := by kernel_rfl) (hQ := fun c a d v w h => by cases d <;> exact h) ?_
    have HS0 : Hid ((fun w' => w'.cell? ⟨w.heap.size, 0, none⟩ = some (.bool l0) ∧ w'.cell? ⟨w.heap.size, 1, none⟩ = some (.int .i64 n0) ∧ w'.cell? ⟨w.heap.size, 2, none⟩ = some (.slice g0 k0 c0) ∧ w'.cell? ⟨w.heap.size + 1, 0, none⟩ = some (.bool l1) ∧ w'.cell? ⟨w.heap.size + 1, 1, none⟩ = some (.int .i64 n1) ∧ w'.cell? ⟨w.heap.size + 1, 2, none⟩ = some (.slice g1 k1 c1)) Wt.drew) := ⟨(X0).cell 0, (X0).cell 1, (X0).cell 2, (X1).cell 0, (X1).cell 1, (X1).cell 2⟩
    iterate 2
      rw [mov_take]
      simp only [List.getElem?_toArray, List.getElem?_cons_succ, List.getElem?_cons_zero]
      refine ⟨?_, .inl ⟨by rfl, ?_⟩, HS0.out, ?_⟩
      rotate_left
      · rintro w' ⟨s0, s1, s2, s3, s4, s5⟩
        go_simp
        rfl
      simp only [Act.put, List.setIfInBounds_toArray, List.set_cons_zero, List.set_cons_succ]
    have hBd : Below w.heap.size w Wt.drew := hBt.drew
    have XDX0 : Blk Wt.drew (w.heap.size) #[.bool l0, .int .i64 n0, .slice g0 k0 c0] 34 := X0
    have XDX1 : Blk Wt.drew (w.heap.size + 1) #[.bool l1, .int .i64 n1, .slice g1 k1 c1] 34 := X1
    clear HS0 hBt X0 X1
    generalize Wt.drew = Wd20 at *
    have X0 := XDX0
    have X1 := XDX1
    clear XDX0 XDX1
    have HS : Hid (∀ W', Below (Wd20).heap.size (Wd20) W' → (fun w' => w'.cell? ⟨w.heap.size, 0, none⟩ = some (.bool l0) ∧ w'.cell? ⟨w.heap.size, 1, none⟩ = some (.int .i64 n0) ∧ w'.cell? ⟨w.heap.size, 2, none⟩ = some (.slice g0 k0 c0) ∧ w'.cell? ⟨w.heap.size + 1, 0, none⟩ = some (.bool l1) ∧ w'.cell? ⟨w.heap.size + 1, 1, none⟩ = some (.int .i64 n1) ∧ w'.cell? ⟨w.heap.size + 1, 2, none⟩ = some (.slice g1 k1 c1)) W') := fun W' h => ⟨(X0.ext h).cell 0, (X0.ext h).cell 1, (X0.ext h).cell 2, (X1.ext h).cell 0, (X1.ext h).cell 1, (X1.ext h).cell 2⟩
    rw [mov_step]
    simp only [List.getElem?_toArray, List.getElem?_cons_succ, List.getElem?_cons_zero]
    go_wp2_with fail
    refine (CTA.out _ (HP.out.ext hBd) (HA.out.ext hBd)).mono ?_
    rintro e V20_0 ⟨rfl, hb⟩
    have hC0 : Below Wd20.heap.size Wd20 V20_0 := hb
    clear hb
    go_wp2_with fail
    refine And.intro (fun _ => HS.out _ hC0) ?_
    rw [mov_step]
    simp only [List.getElem?_toArray, List.getElem?_cons_succ, List.getElem?_cons_zero]
    go_wp2_with fail
    refine (CRA.out _ (HA.out.ext (hBd.trans (hC0.mono hBd.size)))).mono ?_
    rintro e V20_1 ⟨rfl, hb⟩
    have hC1 : Below Wd20.heap.size Wd20 V20_1 := hC0.trans (hb.mono hC0.size)
    clear hb
    go_wp2_with fail
    refine And.intro (fun _ => HS.out _ hC1) ?_
    rw [mov_step]
    simp only [List.getElem?_toArray, List.getElem?_cons_succ, List.getElem?_cons_zero]
    go_wp2_with fail
    refine And.intro (fun _ => HS.out _ hC1) ?_
    rw [mov_step]
    simp only [List.getElem?_toArray, List.getElem?_cons_succ, List.getElem?_cons_zero]
    go_wp2_with fail
    refine And.intro (fun _ => HS.out _ hC1) ?_
    iterate 4
      rw [mov_take]
      simp only [List.getElem?_toArray, List.getElem?_cons_succ, List.getElem?_cons_zero]
      refine ⟨?_, .inl ⟨by rfl, ?_⟩, (HS.out _ hC1), ?_⟩
      rotate_left
      · rintro w' _
        go_simp
        rfl
      simp only [Act.put, List.setIfInBounds_toArray, List.set_cons_zero, List.set_cons_succ]
    rw [mov_step]
    simp only [List.getElem?_toArray, List.getElem?_cons_succ, List.getElem?_cons_zero]
    go_wp2_with fail
    refine (CSS.out _ (HP.out.ext (hBd.trans (hC1.mono hBd.size))) (HA.out.ext (hBd.trans (hC1.mono hBd.size))) (HWV.out.ext (hBd.trans (hC1.mono hBd.size)))).mono ?_
    rintro e V20_2 ⟨rfl, hb⟩
    have hC2 : Below Wd20.heap.size Wd20 V20_2 := hC1.trans (hb.mono hC1.size)
    clear hb
    go_wp2_with fail
    refine And.intro (fun _ => HS.out _ hC2) ?_
    rw [mov_step]
    simp only [List.getElem?_toArray, List.getElem?_cons_succ, List.getElem?_cons_zero]
    go_wp2_with fail
    refine (CRA.out _ (HA.out.ext (hBd.trans (hC2.mono hBd.size)))).mono ?_
    rintro e V20_3 ⟨rfl, hb⟩
    have hC3 : Below Wd20.heap.size Wd20 V20_3 := hC2.trans (hb.mono hC2.size)
    clear hb
    go_wp2_with fail
    refine And.intro (fun _ => HS.out _ hC3) ?_
    rw [mov_step]
    simp only [List.getElem?_toArray, List.getElem?_cons_succ, List.getElem?_cons_zero]
    go_wp2_with fail
    refine (CRB.out _ (HWV.out.ext (hBd.trans (hC3.mono hBd.size)))).mono ?_
    rintro e V20_4 ⟨rfl, hb⟩
    have hC4 : Below Wd20.heap.size Wd20 V20_4 := hC3.trans (hb.mono hC3.size)
    clear hb
    go_wp2_with fail
    refine And.intro (fun _ => HS.out _ hC4) ?_
    rw [mov_step]
    simp only [List.getElem?_toArray, List.getElem?_cons_succ, List.getElem?_cons_zero]
    go_wp2_with fail
    refine And.intro (fun _ => HS.out _ hC4) ?_
    rw [mov_step]
    simp only [List.getElem?_toArray, List.getElem?_cons_succ, List.getElem?_cons_zero]
    go_wp2_with fail
    refine And.intro (fun _ => HS.out _ hC4) ?_
    rw [mov_step]
    simp only [List.getElem?_toArray, List.getElem?_cons_succ, List.getElem?_cons_zero]
    go_wp2_with fail
    refine And.intro (fun _ => HS.out _ hC4) ?_
    rw [mov_step]
    simp only [List.getElem?_toArray, List.getElem?_cons_succ, List.getElem?_cons_zero]
    go_wp2_with fail
    refine And.intro (fun h => absurd h (by omega)) ?_
    rw [wpMov]
    have hB21 : Below w.heap.size w V20_4 := hBd.trans (hC4.mono hBd.size)
    have X0 := X0.ext hC4
    have X1 := X1.ext hC4
    clear HS hBd hC0 hC1 hC2 hC3 hC4
    go_wp2_with fail
    go_ret
    exact ⟨by simp, hB21⟩
  ·
    go_enter Tryd.func5, Tryd.ntmps5
    go_wp2_with fail
    generalize hW0 : ((w.alloc (.cells #[.bool l0, .int .i64 n0, .slice g0 k0 c0] 34)).alloc (.cells #[.bool l1, .int .i64 n1, .slice g1 k1 c1] 34)) = W0
    have hB0 : Below w.heap.size w W0 := by rw [← hW0]; repeat (first | with_reducible assumption | with_reducible exact Below.refl _ _ | with_reducible apply Below.drew | (with_reducible refine Below.alloc ?_ (by first | omega | (simp only [zA, zS, zD, zN]; omega) | (dsimp only; omega) | (simp only [zA, zS, zD, zN]; dsimp only; omega)) _) | (with_reducible refine Below.setCell ?_ (by first | omega | (simp only [zA, zS, zD, zN]; omega) | (dsimp only; omega) | (simp only [zA, zS, zD, zN]; dsimp only; omega)) _) | (with_reducible apply below_drewN))
    have X0 : Blk W0 (w.heap.size) #[.bool l0, .int .i64 n0, .slice g0 k0 c0] 34 := by rw [← hW0]; exact ((Blk.new w #[.bool l0, .int .i64 n0, .slice g0 k0 c0] 34)).alloc _
    have X1 : Blk W0 (w.heap.size + 1) #[.bool l1, .int .i64 n1, .slice g1 k1 c1] 34 := by rw [← hW0]; exact (show Blk ((w.alloc (.cells #[.bool l0, .int .i64 n0, .slice g0 k0 c0] 34)).alloc (.cells #[.bool l1, .int .i64 n1, .slice g1 k1 c1] 34)) (w.heap.size + 1) _ _ by simpa using Blk.new (w.alloc (.cells #[.bool l0, .int .i64 n0, .slice g0 k0 c0] 34)) #[.bool l1, .int .i64 n1, .slice g1 k1 c1] 34)
    clear hW0
    refine (five_fact _ (HP.out.ext hB0) (HE.out.ext hB0)).mono ?_
    rintro e W1 ⟨rfl, hb⟩
    have hB1 : Below w.heap.size w W1 := hB0.trans (hb.mono hB0.size)
    have X0 := X0.ext hb
    have X1 := X1.ext hb
    clear hb hB0
    have f0_0 := X0.cell 0
    have f0_1 := X0.cell 1
    have f0_2 := X0.cell 2
    simp only [List.getElem?_toArray, List.getElem?_cons_succ, List.getElem?_cons_zero] at f0_0 f0_1 f0_2
    go_wp2_with fail
    refine (rvfault_any a 0 _ _ (by omega) (HA.out.ext hB1)).mono ?_
    rintro e W2 ⟨rfl, hb⟩
    clear f0_0 f0_1 f0_2
    have hB2 : Below w.heap.size w W2 := hB1.trans (hb.mono hB1.size)
    have X0 := X0.ext hb
    have X1 := X1.ext hb
    clear hb hB1
    generalize VT.chk a 0 = ca at *
    have f0_0 := X0.cell 0
    have f0_1 := X0.cell 1
    have f0_2 := X0.cell 2
    simp only [List.getElem?_toArray, List.getElem?_cons_succ, List.getElem?_cons_zero] at f0_0 f0_1 f0_2
    go_wp2_with fail
    refine (CCA.out _ _ (HA.out.ext hB2)).mono ?_
    rintro e W3 ⟨rfl, hb⟩
    clear f0_0 f0_1 f0_2
    have hB3 : Below w.heap.size w W3 := hB2.trans (hb.mono hB2.size)
    have X0 := X0.ext hb
    have X1 := X1.ext hb
    clear hb hB2
    go_wp2_with fail
    refine (error_yes ca _ (HG.out.ext hB3)).mono ?_
    rintro e W4 ⟨rfl, hb⟩
    have hB4 : Below w.heap.size w W4 := hB3.trans (hb.mono hB3.size)
    have X0 := X0.ext hb
    have X1 := X1.ext hb
    clear hb hB3
    go_wp2_with fail
    refine (CO.out _).mono ?_
    rintro e W5 ⟨⟨xv, rfl, hxv⟩, hb⟩
    have hB5 : Below w.heap.size w W5 := hB4.trans (hb.mono hB4.size)
    have X0 := X0.ext hb
    have X1 := X1.ext hb
    clear hb hB4
    obtain ⟨xl, xn, xk, xad, xcap, rfl⟩ := hxv.shape
    have hba : Below W5.heap.size W5 (W5.alloc (.cells #[.bool xl, .int .i64 xn, .slice xad xk xcap] 34)) := by repeat (first | with_reducible assumption | with_reducible exact Below.refl _ _ | with_reducible apply Below.drew | (with_reducible refine Below.alloc ?_ (by first | omega | (simp only [zA, zS, zD, zN]; omega) | (dsimp only; omega) | (simp only [zA, zS, zD, zN]; dsimp only; omega)) _) | (with_reducible refine Below.setCell ?_ (by first | omega | (simp only [zA, zS, zD, zN]; omega) | (dsimp only; omega) | (simp only [zA, zS, zD, zN]; dsimp only; omega)) _) | (with_reducible apply below_drewN))
    have hBa : Below w.heap.size w (W5.alloc (.cells #[.bool xl, .int .i64 xn, .slice xad xk xcap] 34)) := hB5.trans (hba.mono hB5.size)
    have X10 := Blk.new W5 #[.bool xl, .int .i64 xn, .slice xad xk xcap] 34
    have hxa := hxv.ext hba
    have X0a := X0.ext hba
    have X1a := X1.ext hba
    have HXV := Lib.hid hxa
    have hz10 : w.heap.size + 1 < W5.heap.size := X1.lt
    obtain ⟨N10, hN10⟩ : ∃ N, N = W5.heap.size := ⟨_, rfl⟩
    rw [← hN10] at X10 hz10
    have HN10 := Lib.hid hN10
    clear hba hxv hxa X0 X1 hB5 hN10
    go_wp2_with fail
    refine (CP.out _ (HP.out.ext hBa) (HE.out.ext hBa)).mono ?_
    rintro e Wp ⟨⟨yv, rfl, hyv⟩, hb⟩
    rw [← HN10.out]
    have hBp : Below w.heap.size w Wp := hBa.trans (hb.mono hBa.size)
    have X10 := X10.ext hb
    have X0 := X0a.ext hb
    have X1 := X1a.ext hb
    have HXV := Lib.hid (HXV.out.ext hb)
    obtain ⟨yl, yn, yk, yad, ycap, rfl⟩ := hyv.shape
    have hbq : Below Wp.heap.size Wp (Wp.alloc (.cells #[.bool yl, .int .i64 yn, .slice yad yk ycap] 34)) := by repeat (first | with_reducible assumption | with_reducible exact Below.refl _ _ | with_reducible apply Below.drew | (with_reducible refine Below.alloc ?_ (by first | omega | (simp only [zA, zS, zD, zN]; omega) | (dsimp only; omega) | (simp only [zA, zS, zD, zN]; dsimp only; omega)) _) | (with_reducible refine Below.setCell ?_ (by first | omega | (simp only [zA, zS, zD, zN]; omega) | (dsimp only; omega) | (simp only [zA, zS, zD, zN]; dsimp only; omega)) _) | (with_reducible apply below_drewN))
    have hBq : Below w.heap.size w (Wp.alloc (.cells #[.bool yl, .int .i64 yn, .slice yad yk ycap] 34)) := hBp.trans (hbq.mono hBp.size)
    have X13 := Blk.new Wp #[.bool yl, .int .i64 yn, .slice yad yk ycap] 34
    have hz13 : N10 < Wp.heap.size := X10.lt
    have X10 := X10.ext hbq
    have X0 := X0.ext hbq
    have X1 := X1.ext hbq
    have HXV := Lib.hid (HXV.out.ext hbq)
    have HYV := Lib.hid (hyv.ext hbq)
    obtain ⟨N13, hN13⟩ : ∃ N, N = Wp.heap.size := ⟨_, rfl⟩
    rw [← hN13] at X13 hz13
    have HN13 := Lib.hid hN13
    clear hb hBa hBp hbq hyv X0a X1a hN13
    go_wp2_with fail
    rw [← HN13.out]
    generalize Wp.alloc (.cells #[.bool yl, .int .i64 yn, .slice yad yk ycap] 34) = Wq at *
    refine (CE.out _ (HG.out.ext hBq)).mono ?_
    rintro e Wr ⟨rfl, hb⟩
    have hBr : Below w.heap.size w Wr := hBq.trans (hb.mono hBq.size)
    have X10 := X10.ext hb
    have X13 := X13.ext hb
    have X0 := X0.ext hb
    have X1 := X1.ext hb
    have HXV := Lib.hid (HXV.out.ext hb)
    have HYV := Lib.hid (HYV.out.ext hb)
    clear hb hBq HN13 HN10
    have x0 := X10.cell 0
    have x1 := X10.cell 1
    have x2 := X10.cell 2
    simp only [List.getElem?_toArray, List.getElem?_cons_succ, List.getElem?_cons_zero] at x0 x1 x2
    have y0 := X13.cell 0
    have y1 := X13.cell 1
    have y2 := X13.cell 2
    simp only [List.getElem?_toArray, List.getElem?_cons_succ, List.getElem?_cons_zero] at y0 y1 y2
    go_wp2_with fail
    refine (value_same t _ _ _ HXV.out HYV.out).mono ?_
    rintro e Ws ⟨rfl, hb⟩
    have hBs : Below w.heap.size w Ws := hBr.trans (hb.mono hBr.size)
    have X0 := X0.ext hb
    have X1 := X1.ext hb
    clear hb hBr x0 x1 x2 y0 y1 y2 X10 X13 HXV HYV
    by_cases hca : ca = 0
    case neg =>
      have p0 : (ca != 0) = true := by simpa using hca
      clear hca
      go_wp2_with fail
      go_ret
      exact ⟨rfl, hBs⟩
    subst hca
    have z0 := X1.cell 0
    have z1 := X1.cell 1
    have z2 := X1.cell 2
    simp only [List.getElem?_toArray, List.getElem?_cons_succ, List.getElem?_cons_zero] at z0 z1 z2
    go_wp2_with fail
    refine (rvfault_any b 0 _ _ (by omega) (HWV.out.ext hBs)).mono ?_
    rintro e Wt ⟨rfl, hb⟩
    have hBt : Below w.heap.size w Wt := hBs.trans (hb.mono hBs.size)
    have X0 := X0.ext hb
    have X1 := X1.ext hb
    clear hb hBs z0 z1 z2
    generalize VT.chk b 0 = cb at *
    by_cases hcb : cb = 0
    case neg =>
      have p0 : (cb != 0) = true := by simpa using hcb
      clear hcb
      go_wp2_with fail
      go_ret
      exact ⟨rfl, hBt⟩
    subst hcb
    go_wp2_with fail
    refine region_mov (S := fun w' => w'.cell? ⟨w.heap.size, 0, none⟩ = some (.bool l0) ∧ w'.cell? ⟨w.heap.size, 1, none⟩ = some (.int .i64 n0) ∧ w'.cell? ⟨w.heap.size, 2, none⟩ = some (.slice g0 k0 c0) ∧ w'.cell? ⟨w.heap.size + 1, 0, none⟩ = some (.bool l1) ∧ w'.cell? ⟨w.heap.size + 1, 1, none⟩ = some (.int .i64 n1) ∧ w'.cell? ⟨w.heap.size + 1, 2, none⟩ = some (.slice g1 k1 c1)) (n := 16) (ms := [(true, 0), (true, 2), (false, 1), (false, 3), (false, 4), (false, 5), (true, 6), (true, 7), (true, 9), (true, 11), (false, 8), (false, 10), (false, 12), (false, 13), (false, 14), (false, 15), (false, 16)]) (hm := by kernel_rfl) (hB := by kernel_rfl) (hQ := fun c a d v w h => by cases d <;> exact h) ?_
    have HS0 : Hid ((fun w' => w'.cell? ⟨w.heap.size, 0, none⟩ = some (.bool l0) ∧ w'.cell? ⟨w.heap.size, 1, none⟩ = some (.int .i64 n0) ∧ w'.cell? ⟨w.heap.size, 2, none⟩ = some (.slice g0 k0 c0) ∧ w'.cell? ⟨w.heap.size + 1, 0, none⟩ = some (.bool l1) ∧ w'.cell? ⟨w.heap.size + 1, 1, none⟩ = some (.int .i64 n1) ∧ w'.cell? ⟨w.heap.size + 1, 2, none⟩ = some (.slice g1 k1 c1)) Wt.drew) := ⟨(X0).cell 0, (X0).cell 1, (X0).cell 2, (X1).cell 0, (X1).cell 1, (X1).cell 2⟩
    iterate 2
      rw [mov_take]
      simp only [List.getElem?_toArray, List.getElem?_cons_succ, List.getElem?_cons_zero]
      refine ⟨?_, .inl ⟨by rfl, ?_⟩, HS0.out, ?_⟩
      rotate_left
      · rintro w' ⟨s0, s1, s2, s3, s4, s5⟩
        go_simp
        rfl
      simp only [Act.put, List.setIfInBounds_toArray, List.set_cons_zero, List.set_cons_succ]
    have hBd : Below w.heap.size w Wt.drew := hBt.drew
    have XDX0 : Blk Wt.drew (w.heap.size) #[.bool l0, .int .i64 n0, .slice g0 k0 c0] 34 := X0
    have XDX1 : Blk Wt.drew (w.heap.size + 1) #[.bool l1, .int .i64 n1, .slice g1 k1 c1] 34 := X1
    clear HS0 hBt X0 X1
    generalize Wt.drew = Wd20 at *
    have X0 := XDX0
    have X1 := XDX1
    clear XDX0 XDX1
    have HS : Hid (∀ W', Below (Wd20).heap.size (Wd20) W' → (fun w' => w'.cell? ⟨w.heap.size, 0, none⟩ = some (.bool l0) ∧ w'.cell? ⟨w.heap.size, 1, none⟩ = some (.int .i64 n0) ∧ w'.cell? ⟨w.heap.size, 2, none⟩ = some (.slice g0 k0 c0) ∧ w'.cell? ⟨w.heap.size + 1, 0, none⟩ = some (.bool l1) ∧ w'.cell? ⟨w.heap.size + 1, 1, none⟩ = some (.int .i64 n1) ∧ w'.cell? ⟨w.heap.size + 1, 2, none⟩ = some (.slice g1 k1 c1)) W') := fun W' h => ⟨(X0.ext h).cell 0, (X0.ext h).cell 1, (X0.ext h).cell 2, (X1.ext h).cell 0, (X1.ext h).cell 1, (X1.ext h).cell 2⟩
    rw [mov_step]
    simp only [List.getElem?_toArray, List.getElem?_cons_succ, List.getElem?_cons_zero]
    go_wp2_with fail
    refine (CTA.out _ (HP.out.ext hBd) (HA.out.ext hBd)).mono ?_
    rintro e V20_0 ⟨rfl, hb⟩
    have hC0 : Below Wd20.heap.size Wd20 V20_0 := hb
    clear hb
    go_wp2_with fail
    refine And.intro (fun _ => HS.out _ hC0) ?_
    rw [mov_step]
    simp only [List.getElem?_toArray, List.getElem?_cons_succ, List.getElem?_cons_zero]
    go_wp2_with fail
    refine (CRA.out _ (HA.out.ext (hBd.trans (hC0.mono hBd.size)))).mono ?_
    rintro e V20_1 ⟨rfl, hb⟩
    have hC1 : Below Wd20.heap.size Wd20 V20_1 := hC0.trans (hb.mono hC0.size)
    clear hb
    go_wp2_with fail
    refine And.intro (fun _ => HS.out _ hC1) ?_
    rw [mov_step]
    simp only [List.getElem?_toArray, List.getElem?_cons_succ, List.getElem?_cons_zero]
    go_wp2_with fail
    refine And.intro (fun _ => HS.out _ hC1) ?_
    rw [mov_step]
    simp only [List.getElem?_toArray, List.getElem?_cons_succ, List.getElem?_cons_zero]
    go_wp2_with fail
    refine And.intro (fun _ => HS.out _ hC1) ?_
    iterate 4
      rw [mov_take]
      simp only [List.getElem?_toArray, List.getElem?_cons_succ, List.getElem?_cons_zero]
      refine ⟨?_, .inl ⟨by rfl, ?_⟩, (HS.out _ hC1), ?_⟩
      rotate_left
      · rintro w' _
        go_simp
        rfl
      simp only [Act.put, List.setIfInBounds_toArray, List.set_cons_zero, List.set_cons_succ]
    rw [mov_step]
    simp only [List.getElem?_toArray, List.getElem?_cons_succ, List.getElem?_cons_zero]
    go_wp2_with fail
    refine (CSS.out _ (HP.out.ext (hBd.trans (hC1.mono hBd.size))) (HA.out.ext (hBd.trans (hC1.mono hBd.size))) (HWV.out.ext (hBd.trans (hC1.mono hBd.size)))).mono ?_
    rintro e V20_2 ⟨rfl, hb⟩
    have hC2 : Below Wd20.heap.size Wd20 V20_2 := hC1.trans (hb.mono hC1.size)
    clear hb
    go_wp2_with fail
    refine And.intro (fun _ => HS.out _ hC2) ?_
    rw [mov_step]
    simp only [List.getElem?_toArray, List.getElem?_cons_succ, List.getElem?_cons_zero]
    go_wp2_with fail
    refine (CRA.out _ (HA.out.ext (hBd.trans (hC2.mono hBd.size)))).mono ?_
    rintro e V20_3 ⟨rfl, hb⟩
    have hC3 : Below Wd20.heap.size Wd20 V20_3 := hC2.trans (hb.mono hC2.size)
    clear hb
    go_wp2_with fail
    refine And.intro (fun _ => HS.out _ hC3) ?_
    rw [mov_step]
    simp only [List.getElem?_toArray, List.getElem?_cons_succ, List.getElem?_cons_zero]
    go_wp2_with fail
    refine (CRB.out _ (HWV.out.ext (hBd.trans (hC3.mono hBd.size)))).mono ?_
    rintro e V20_4 ⟨rfl, hb⟩
    have hC4 : Below Wd20.heap.size Wd20 V20_4 := hC3.trans (hb.mono hC3.size)
    clear hb
    go_wp2_with fail
    refine And.intro (fun _ => HS.out _ hC4) ?_
    rw [mov_step]
    simp only [List.getElem?_toArray, List.getElem?_cons_succ, List.getElem?_cons_zero]
    go_wp2_with fail
    refine And.intro (fun _ => HS.out _ hC4) ?_
    rw [mov_step]
    simp only [List.getElem?_toArray, List.getElem?_cons_succ, List.getElem?_cons_zero]
    go_wp2_with fail
    refine And.intro (fun _ => HS.out _ hC4) ?_
    rw [mov_step]
    simp only [List.getElem?_toArray, List.getElem?_cons_succ, List.getElem?_cons_zero]
    go_wp2_with fail
    refine And.intro (fun _ => HS.out _ hC4) ?_
    rw [mov_step]
    simp only [List.getElem?_toArray, List.getElem?_cons_succ, List.getElem?_cons_zero]
    go_wp2_with fail
    refine And.intro (fun h => absurd h (by omega)) ?_
    rw [wpMov]
    have hB21 : Below w.heap.size w V20_4 := hBd.trans (hC4.mono hBd.size)
    have X0 := X0.ext hC4
    have X1 := X1.ext hC4
    clear HS hBd hC0 hC1 hC2 hC3 hC4
    go_wp2_with fail
    go_ret
    exact ⟨by simp, hB21⟩
theorem valTells_walk (w : World) (hP : PowAt w) (hE : NumErrsAt w) (hG : ErrTypeAt w) {v0 v1 v2 : Value} {m0 m1 m2 : Nat} (a : VT) (o0 : ValAt w v0 a) (b0 : VT.wt a ≤ m0) (b : VT) (o1 : ValAt w v1 b) (b1 : VT.wt b ≤ m1) (s : List UInt8) (o2 : v2 = .string ⟨s.toArray⟩) (b2 : s.length < m2) (hs : m0 + (m1 + (m2 + 0)) ≤ 1048576) :
    Calls Tryd.prog 5 #[v0, v1, v2] w fun e w' => e = .returned (.bool true) ∧ Below w.heap.size w w' := by
  subst o2
  have hsl : s.length ≤ 1000000000 := by omega
  by_cases h : ∃ t, IsText s t
  · obtain ⟨t, ht⟩ := h
    have uq : ∀ u, IsText s u → u = t := fun u hu => by
      have h1 := isText_rd hu
      rw [isText_rd ht] at h1
      exact (Prod.mk.inj h1).1.symm
    refine valTells_go w hP hE hG a o0 (by omega) b o1 (by omega) s hsl t true 0 .nilIface (Lib.hid fun W => (rvof_any s hsl W).mono fun e w' ⟨h, hb⟩ => ⟨?_, hb⟩) (Lib.hid fun W hp he => (parse_any idx_any s hsl W hp he).mono fun e w' ⟨h, hb⟩ => ⟨?_, hb⟩) (Lib.hid fun W hg => by have := error_yes 0 W hg; rwa [errV_zero] at this) (.inl ⟨rfl, rfl⟩)
    · rcases h with ⟨v, u, rfl, hv, hu⟩ | ⟨_, hn⟩
      · exact ⟨v, rfl, uq u hu ▸ hv⟩
      · exact absurd ht (hn t)
    · rcases h with ⟨v, u, rfl, hv, hu⟩ | ⟨_, hn⟩
      · exact ⟨v, rfl, uq u hu ▸ hv⟩
      · exact absurd ht (hn t)
  · refine valTells_go w hP hE hG a o0 (by omega) b o1 (by omega) s hsl (.mk false 0 []) false 3 (errV 3) (Lib.hid fun W => (rvof_any s hsl W).mono fun e w' ⟨h2, hb⟩ => ⟨?_, hb⟩) (Lib.hid fun W hp he => (parse_any idx_any s hsl W hp he).mono fun e w' ⟨h2, hb⟩ => ⟨?_, hb⟩) (Lib.hid fun W hg => error_yes 3 W hg) (.inr ⟨rfl, rfl⟩)
    · rcases h2 with ⟨v, u, rfl, hv, hu⟩ | ⟨rfl, _⟩
      · exact absurd ⟨u, hu⟩ h
      · exact ⟨_, rfl, ValIn.leaf _ _ ⟨by decide, by decide⟩⟩
    · rcases h2 with ⟨v, u, rfl, hv, hu⟩ | ⟨rfl, _⟩
      · exact absurd ⟨u, hu⟩ h
      · exact ⟨_, rfl, ValIn.leaf _ _ ⟨by decide, by decide⟩⟩
end Go.Proofs.YtlhdiekibkdiaaaDoor
