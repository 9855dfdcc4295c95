/- The walk through 'are two values the same?'. -/
import Derived.Test.YtlhdiekibkdiaaaDoorPVT
import Derived.Test.YtlhdiekibkdiaaaDoorREG
import Derived.Deep.DeepCutAuto
namespace Go.Proofs.YtlhdiekibkdiaaaDoor
set_option maxRecDepth 100000
open Go.RowKit
set_option linter.unusedSimpArgs false
set_option linter.unusedVariables false
namespace VT
mutual
def sameV : VT → VT → Bool
  | .mk l n s, .mk l' n' s' => l == l' && n == n' && decide (s.length = s'.length) && sameL s s'
def sameL : List VT → List VT → Bool
  | [], _ => true
  | x :: s, t => match t with
    | [] => true
    | y :: t => sameV x y && sameL s t
end
theorem sameL_step (s t : List VT) (j : Nat) (h : j < s.length) (h2 : j < t.length) : sameL (s.drop j) (t.drop j) = (sameV s[j] t[j] && sameL (s.drop (j + 1)) (t.drop (j + 1))) := by
  rw [List.drop_eq_getElem_cons h, List.drop_eq_getElem_cons h2]; simp only [sameL]
theorem sameV_iff (t : VT) : ∀ u, sameV t u = true ↔ t = u := by
  induction t using VT.ind with
  | h l n s ih =>
    intro u
    obtain ⟨l', n', s'⟩ := u
    have hL : ∀ (a : List VT), (∀ x ∈ a, x ∈ s) → ∀ b : List VT, a.length = b.length → (sameL a b = true ↔ a = b) := by
      intro a
      induction a with
      | nil => intro _ b hb; cases b with | nil => simp [sameL] | cons y b => simp at hb
      | cons x a iha =>
        intro hx b hb
        cases b with
        | nil => simp at hb
        | cons y b =>
          simp only [sameL, Bool.and_eq_true, List.cons.injEq]
          rw [ih x (hx x (by simp)) y, iha (fun z hz => hx z (by simp [hz])) b (by simpa using hb)]
    simp only [sameV, Bool.and_eq_true, beq_iff_eq, decide_eq_true_eq, mk.injEq]
    constructor
    · rintro ⟨⟨⟨rfl, rfl⟩, h⟩, h2⟩
      exact ⟨rfl, rfl, (hL s (fun x hx => hx) s' h).1 h2⟩
    · rintro ⟨rfl, rfl, rfl⟩
      exact ⟨⟨⟨rfl, rfl⟩, rfl⟩, (hL s (fun x hx => hx) s rfl).2 rfl⟩
theorem sameV_refl (t : VT) : sameV t t = true := (sameV_iff t t).2 rfl
end VT
section
variable {w : World} {l l' : Bool} {n n' : Int} {ad ad' : Option Addr} {sn sn' cap cap' : Nat}
set_option maxHeartbeats 1000000 in
theorem rsame_no (h : l ≠ l' ∨ n ≠ n' ∨ sn ≠ sn') : Calls Tryd.prog 25 #[.agg #[.bool l, .int .i64 n, .slice ad sn cap], .agg #[.bool l', .int .i64 n', .slice ad' sn' cap']] w fun e w' => e = .returned (.bool false) ∧ Below w.heap.size w w' := by
  by_cases hl : l = l'
  · subst hl
    have q1 : (l != l) = false := by simp
    by_cases hn : n = n'
    · subst hn
      have q2 : (n != n) = false := by simp
      have hs : sn ≠ sn' := by
        rcases h with h | h | h
        · exact absurd rfl h
        · exact absurd rfl h
        · exact h
      have q3 : ((sn : Int) != (sn' : Int)) = true := by simp; omega
      clear h hs
      go_enter Tryd.func25, Tryd.ntmps25
      go_wp2_with fail
      go_ret
      exact ⟨rfl, by repeat (first | with_reducible assumption | with_reducible exact Below.refl _ _ | with_reducible apply Below.drew | (with_reducible refine Below.alloc ?_ (by first | omega | (simp only [zA, zS, zD, zN]; omega) | (dsimp only; omega) | (simp only [zA, zS, zD, zN]; dsimp only; omega)) _) | (with_reducible refine Below.setCell ?_ (by first | omega | (simp only [zA, zS, zD, zN]; omega) | (dsimp only; omega) | (simp only [zA, zS, zD, zN]; dsimp only; omega)) _) | (with_reducible apply below_drewN))⟩
    · have q2 : (n != n') = true := by simpa using hn
      clear h hn
      go_enter Tryd.func25, Tryd.ntmps25
      go_wp2_with fail
      go_ret
      exact ⟨rfl, by repeat (first | with_reducible assumption | with_reducible exact Below.refl _ _ | with_reducible apply Below.drew | (with_reducible refine Below.alloc ?_ (by first | omega | (simp only [zA, zS, zD, zN]; omega) | (dsimp only; omega) | (simp only [zA, zS, zD, zN]; dsimp only; omega)) _) | (with_reducible refine Below.setCell ?_ (by first | omega | (simp only [zA, zS, zD, zN]; omega) | (dsimp only; omega) | (simp only [zA, zS, zD, zN]; dsimp only; omega)) _) | (with_reducible apply below_drewN))⟩
  · clear h
    rcases (show (l = true ∧ l' = false) ∨ (l = false ∧ l' = true) by cases l <;> cases l' <;> simp at hl ⊢) with ⟨rfl, rfl⟩ | ⟨rfl, rfl⟩
    · clear hl
      go_enter Tryd.func25, Tryd.ntmps25
      go_wp2_with fail
      go_ret
      exact ⟨rfl, by repeat (first | with_reducible assumption | with_reducible exact Below.refl _ _ | with_reducible apply Below.drew | (with_reducible refine Below.alloc ?_ (by first | omega | (simp only [zA, zS, zD, zN]; omega) | (dsimp only; omega) | (simp only [zA, zS, zD, zN]; dsimp only; omega)) _) | (with_reducible refine Below.setCell ?_ (by first | omega | (simp only [zA, zS, zD, zN]; omega) | (dsimp only; omega) | (simp only [zA, zS, zD, zN]; dsimp only; omega)) _) | (with_reducible apply below_drewN))⟩
    · clear hl
      go_enter Tryd.func25, Tryd.ntmps25
      go_wp2_with fail
      go_ret
      exact ⟨rfl, by repeat (first | with_reducible assumption | with_reducible exact Below.refl _ _ | with_reducible apply Below.drew | (with_reducible refine Below.alloc ?_ (by first | omega | (simp only [zA, zS, zD, zN]; omega) | (dsimp only; omega) | (simp only [zA, zS, zD, zN]; dsimp only; omega)) _) | (with_reducible refine Below.setCell ?_ (by first | omega | (simp only [zA, zS, zD, zN]; omega) | (dsimp only; omega) | (simp only [zA, zS, zD, zN]; dsimp only; omega)) _) | (with_reducible apply below_drewN))⟩
end
set_option maxHeartbeats 4000000 in
theorem rvalue_any (t : VT) : ∀ (u : VT) (va vb : Value) (w : World), ValAt w va t → ValAt w vb u → Calls Tryd.prog 25 #[va, vb] w fun e w' => e = .returned (.bool (VT.sameV t u)) ∧ Below w.heap.size w w' := by
  induction t using VT.ind with
  | h l n s ih =>
    intro u va vb w ha hb
    obtain ⟨l0, n0, s0, ad, cap, hmk, rfl, hn, hl, hm, hs⟩ := ha.form
    obtain ⟨rfl, rfl, rfl⟩ := VT.mk.inj hmk
    obtain ⟨l1, n1, s1, ad1, cap1, rfl, rfl, hn1, hl1, hm1, hs1⟩ := hb.form
    by_cases hd : l ≠ l1 ∨ n ≠ n1 ∨ s.length ≠ s1.length
    · have hr : VT.sameV (.mk l n s) (.mk l1 n1 s1) = false := by
        cases h : VT.sameV (.mk l n s) (.mk l1 n1 s1) with
        | false => rfl
        | true =>
          have := (VT.sameV_iff _ _).1 h
          simp only [VT.mk.injEq] at this
          obtain ⟨rfl, rfl, rfl⟩ := this
          simp at hd
      rw [hr]
      exact rsame_no hd
    · have e1 : l = l1 := by
        by_cases h : l = l1
        · exact h
        · exact absurd (.inl h) hd
      have e2 : n = n1 := by
        by_cases h : n = n1
        · exact h
        · exact absurd (.inr (.inl h)) hd
      have e3 : s.length = s1.length := by
        by_cases h : s.length = s1.length
        · exact h
        · exact absurd (.inr (.inr h)) hd
      subst e1 e2
      have HR : Hid (VT.sameV (.mk l n s) (.mk l n s1) = VT.sameL (s.drop 0) (s1.drop 0)) := by show _ = _; simp [VT.sameV, e3]
      obtain ⟨sn, hsn⟩ : ∃ sn, sn = s.length := ⟨_, rfl⟩
      have hsn1 : sn = s1.length := by omega
      rw [← hsn, ← hsn1]
      have hsm : sn ≤ 9223372036854775807 := by omega
      have HN := Lib.hid hsn
      have HN1 := Lib.hid hsn1
      have IH := Lib.hid ih
      clear ha hb hmk hd e3 hsn hsn1 ih hl hl1 hm hm1
      have q1 : (l != l) = false := by simp
      go_enter Tryd.func25, Tryd.ntmps25
      go_wp2_with fail
      generalize hWW : (w.alloc (.cells #[.bool l, .int .i64 n, .slice ad sn cap] 34)).alloc (.cells #[.bool l, .int .i64 n, .slice ad1 sn cap1] 34) = W0
      have hB0 : Below w.heap.size w W0 := by rw [← hWW]; repeat (first | with_reducible assumption | with_reducible exact Below.refl _ _ | with_reducible apply Below.drew | (with_reducible refine Below.alloc ?_ (by first | omega | (simp only [zA, zS, zD, zN]; omega) | (dsimp only; omega) | (simp only [zA, zS, zD, zN]; dsimp only; omega)) _) | (with_reducible refine Below.setCell ?_ (by first | omega | (simp only [zA, zS, zD, zN]; omega) | (dsimp only; omega) | (simp only [zA, zS, zD, zN]; dsimp only; omega)) _) | (with_reducible apply below_drewN))
      have X0 : Blk W0 w.heap.size #[.bool l, .int .i64 n, .slice ad sn cap] 34 := by rw [← hWW]; exact (Blk.new w _ _).alloc _
      have X1 : Blk W0 (w.heap.size + 1) #[.bool l, .int .i64 n, .slice ad1 sn cap1] 34 := by rw [← hWW]; simpa using Blk.new (w.alloc (.cells #[.bool l, .int .i64 n, .slice ad sn cap] 34)) #[.bool l, .int .i64 n, .slice ad1 sn cap1] 34
      have k0 := hs.ext hB0
      have k1 := hs1.ext hB0
      clear hs hs1 hWW
      go_loopw [5] (fun i wr => ∃ j : Nat, j ≤ sn ∧ i = .int .i64 j ∧ Below W0.heap.size W0 wr ∧ Hid (VT.sameL (s.drop 0) (s1.drop 0) = VT.sameL (s.drop j) (s1.drop j))) (fun i _ => sn - (intOf i).toNat)
      case atStart => exact ⟨0, by omega, rfl, Below.refl _ _, rfl⟩
      case round =>
        obtain ⟨j, hj, rfl, hb2, HE⟩ := hrel
        have hzr := hb2.size
        have hz0 := hB0.size
        have hBr : Below w.heap.size w wr := hB0.trans (hb2.mono hB0.size)
        have xr0 := X0.ext hb2
        have xr1 := X1.ext hb2
        have f0 := xr0.cell 0
        have f1 := xr0.cell 1
        have f2 := xr0.cell 2
        simp only [List.getElem?_toArray, List.getElem?_cons_succ, List.getElem?_cons_zero] at f0 f1 f2
        have g0 := xr1.cell 0
        have g1 := xr1.cell 1
        have g2 := xr1.cell 2
        simp only [List.getElem?_toArray, List.getElem?_cons_succ, List.getElem?_cons_zero] at g0 g1 g2
        by_cases hlt : j < sn
        · have p0 : (0 : Int) ≤ (j : Int) := by omega
          have p1 : (j : Int) < (sn : Int) := by omega
          have hj0 : j < s.length := by have := HN.out; omega
          have hj1 : j < s1.length := by have := HN1.out; omega
          obtain ⟨bl, off, rfl, hbl, hc⟩ := (k0.ext hb2).at' (by omega)
          obtain ⟨l2, n2, ad2, t2, cap2, c0, c1, c2, hg2⟩ := hc j hj0
          obtain ⟨bm, ofm, rfl, hbm, hd⟩ := (k1.ext hb2).at' (by omega)
          obtain ⟨l3, n3, ad3, t3, cap3, d0, d1, d2, hg3⟩ := hd j hj1
          have CK := Lib.hid (fun W (hW : Below wr.heap.size wr W) => IH.out s[j] (List.getElem_mem hj0) s1[j] _ _ W (hg2.ext hW) (hg3.ext hW))
          have ST := Lib.hid (VT.sameL_step s s1 j hj0 hj1)
          clear hc hd k0 k1 hg2 hg3
          generalize VT.sameV s[j] s1[j] = bb at *
          go_wp2_with fail
          refine region_mov (S := fun w' => w'.cell? ⟨w.heap.size, 2, none⟩ = some (.slice (some ⟨bl, off, none⟩) sn cap) ∧ w'.cell? ⟨w.heap.size + 1, 2, none⟩ = some (.slice (some ⟨bm, ofm, none⟩) sn cap1) ∧ w'.cell? ⟨bl, off + j * 3, none⟩ = some (.bool l2) ∧ w'.cell? ⟨bl, off + j * 3 + 1, none⟩ = some (.int .i64 n2) ∧ w'.cell? ⟨bl, off + j * 3 + 2, none⟩ = some (.slice ad2 t2 cap2) ∧ w'.cell? ⟨bm, ofm + j * 3, none⟩ = some (.bool l3) ∧ w'.cell? ⟨bm, ofm + j * 3 + 1, none⟩ = some (.int .i64 n3) ∧ w'.cell? ⟨bm, ofm + j * 3 + 2, none⟩ = some (.slice ad3 t3 cap3)) (n := 11) (ms := [(true, 0), (true, 1), (true, 2), (true, 3), (true, 4), (true, 5), (true, 6), (true, 7), (true, 8), (true, 9), (false, 10), (false, 11)]) (hm := by kernel_rfl) (hB := by kernel_rfl) (hQ := fun c a d v w h => by cases d <;> exact h) ?_
          have HS : Hid (∀ W', Below wr.heap.size wr W' → W'.cell? ⟨w.heap.size, 2, none⟩ = some (.slice (some ⟨bl, off, none⟩) sn cap) ∧ W'.cell? ⟨w.heap.size + 1, 2, none⟩ = some (.slice (some ⟨bm, ofm, none⟩) sn cap1) ∧ W'.cell? ⟨bl, off + j * 3, none⟩ = some (.bool l2) ∧ W'.cell? ⟨bl, off + j * 3 + 1, none⟩ = some (.int .i64 n2) ∧ W'.cell? ⟨bl, off + j * 3 + 2, none⟩ = some (.slice ad2 t2 cap2) ∧ W'.cell? ⟨bm, ofm + j * 3, none⟩ = some (.bool l3) ∧ W'.cell? ⟨bm, ofm + j * 3 + 1, none⟩ = some (.int .i64 n3) ∧ W'.cell? ⟨bm, ofm + j * 3 + 2, none⟩ = some (.slice ad3 t3 cap3)) := fun W' h =>
            ⟨(xr0.ext h).cell 2, (xr1.ext h).cell 2, (h.cell (p := ⟨bl, _, none⟩) hbl).trans c0, (h.cell (p := ⟨bl, _, none⟩) hbl).trans c1, (h.cell (p := ⟨bl, _, none⟩) hbl).trans c2, (h.cell (p := ⟨bm, _, none⟩) hbm).trans d0, (h.cell (p := ⟨bm, _, none⟩) hbm).trans d1, (h.cell (p := ⟨bm, _, none⟩) hbm).trans d2⟩
          have hWD : Below wr.heap.size wr wr.drew := (Below.refl _ _).drew
          have HWD := Lib.hid hWD
          have HS0 := Lib.hid (HS.out _ hWD)
          iterate 10
            rw [mov_take]
            simp only [List.getElem?_toArray, List.getElem?_cons_succ, List.getElem?_cons_zero]
            refine ⟨?_, .inl ⟨by rfl, ?_⟩, HS0.out, ?_⟩
            rotate_left
            · rintro w' ⟨s0, s1', s2, s3, s4, s5, s6, s7⟩
              go_simp
              rfl
            simp only [Act.put, List.setIfInBounds_toArray, List.set_cons_zero, List.set_cons_succ]
          clear HS0 f0 f1 f2 g0 g1 g2 c0 c1 c2 d0 d1 d2 hWD
          generalize wr.drew = WD at *
          rw [mov_step]
          simp only [List.getElem?_toArray, List.getElem?_cons_succ, List.getElem?_cons_zero]
          go_wp2_with fail
          refine (CK.out WD HWD.out).mono ?_
          rintro e V ⟨rfl, hbv⟩
          have hbV : Below wr.heap.size wr V := HWD.out.trans (hbv.mono HWD.out.size)
          have HS2 := Lib.hid (HS.out V hbV)
          have hB3 : Below W0.heap.size W0 V := hb2.trans (hbV.mono hzr)
          have hBw : Below w.heap.size w V := hB0.trans (hB3.mono hB0.size)
          clear HS hbv
          go_wp2_with fail
          refine And.intro (fun _ => HS2.out) ?_
          rw [mov_step]
          simp only [List.getElem?_toArray, List.getElem?_cons_succ, List.getElem?_cons_zero]
          go_wp2_with fail
          refine And.intro (fun h => absurd h (by omega)) ?_
          rw [wpMov]
          clear HS2
          cases bb with
          | true =>
            have HE2 : Hid (VT.sameL (s.drop 0) (s1.drop 0) = VT.sameL (s.drop (j + 1)) (s1.drop (j + 1))) := by
              have := HE.out.trans ST.out
              rw [Bool.true_and] at this
              exact this
            go_wp2_with fail
            exact ⟨⟨j + 1, by omega, by go_num, hB3, HE2⟩, by simp [intOf]; omega⟩
          | false =>
            have HX : Hid (VT.sameV (.mk l n s) (.mk l n s1) = false) := by
              have := HR.out.trans (HE.out.trans ST.out)
              rw [Bool.false_and] at this
              exact this
            go_wp2_with fail
            go_ret
            exact ⟨by rw [HX.out]; rfl, hBw⟩
        · have p1 : ¬ (j : Int) < (sn : Int) := by omega
          have HX : Hid (VT.sameV (.mk l n s) (.mk l n s1) = true) := by
            have := HR.out.trans HE.out
            rw [List.drop_eq_nil_of_le (by have := HN.out; omega : s.length ≤ j)] at this
            exact this
          go_wp2_with fail
          go_ret
          exact ⟨by rw [HX.out]; rfl, hBr⟩
theorem value_same (t : VT) (va vb : Value) (w : World) (ha : ValAt w va t) (hb : ValAt w vb t) : Calls Tryd.prog 25 #[va, vb] w fun e w' => e = .returned (.bool true) ∧ Below w.heap.size w w' := by
  have := rvalue_any t t va vb w ha hb
  rw [VT.sameV_refl] at this
  exact this
end Go.Proofs.YtlhdiekibkdiaaaDoor
