/- The walk through the statement ValNests. -/
import Derived.Test.YtibmnifenfingaaDoorLFIVE
import Derived.Test.YtibmnifenfingaaDoorTAs
namespace Go.Proofs.YtibmnifenfingaaDoor
set_option maxRecDepth 100000
open Go.RowKit
set_option linter.unusedSimpArgs false
set_option linter.unusedVariables false
namespace VT
def nest (v : VT) : Nat → VT
  | 0 => v
  | k + 1 => .mk true 0 [nest v k]
theorem chk_later (v : VT) : ∀ d, chk v d = 0 → ∀ d', chk v d' = 0 ∨ chk v d' = 4 := by
  induction v using VT.ind with
  | h l n s ih =>
    intro d h d'
    unfold chk at h ⊢
    split at h
    · exact absurd h (by decide)
    · rename_i hf
      rw [if_neg hf]
      split at h
      · exact absurd h (by decide)
      · split
        · exact .inr rfl
        · have h1 := (chkL_zero s _).1 h
          have : ∀ t : List VT, (∀ x ∈ t, chk x (d' + 1) = 0 ∨ chk x (d' + 1) = 4) → chkL t (d' + 1) = 0 ∨ chkL t (d' + 1) = 4 := by
            intro t
            induction t with
            | nil => intro _; exact .inl rfl
            | cons x t ih2 =>
              intro hx
              unfold chkL
              split
              · exact ih2 (fun y hy => hx y (List.mem_cons_of_mem _ hy))
              · exact hx x (List.mem_cons_self)
          exact this s (fun x hx => ih x hx _ (h1 x hx) _)
theorem nest_chk (v : VT) (k d : Nat) : chk (nest v (k + 1)) d = if 6 ≤ d then 4 else chk (nest v k) (d + 1) := by
  simp only [nest, chk, chkL]
  simp
  split
  · rfl
  · split
    · rename_i h; exact h.symm
    · rfl
theorem nest_cases {v : VT} (h : chk v 0 = 0) (k : Nat) : ∀ d, chk (nest v k) d = 0 ∨ chk (nest v k) d = 4 := by
  induction k with
  | zero => exact fun d => chk_later v 0 h d
  | succ k ih =>
    intro d
    rw [nest_chk]
    split
    · exact .inr rfl
    · exact ih _
theorem nest_deep (v : VT) : ∀ k d, 6 < k + d → 0 < k → d ≤ 6 → chk (nest v k) d = 4 := by
  intro k
  induction k with
  | zero => intro d _ h; omega
  | succ k ih =>
    intro d h _ hd
    rw [nest_chk]
    split
    · rfl
    · exact ih (d + 1) (by omega) (by omega) (by omega)
theorem nest_le {v : VT} {k : Nat} (h : chk (nest v k) 0 = 0) : k ≤ 6 := by
  by_cases hk : k ≤ 6
  · exact hk
  · rw [nest_deep v k 0 (by omega) (by omega) (by omega)] at h
    exact absurd h (by decide)
theorem text_nest (v : VT) (k : Nat) : text (nest v (k + 1)) = 40 :: (text (nest v k) ++ [41]) := by
  simp [nest, text, texts, Lib.join_one]
theorem nest_wt (v : VT) (k : Nat) : wt (nest v k) = wt v + k := by
  induction k with
  | zero => rfl
  | succ k ih => simp only [nest, wt, wtL, ih]; omega
end VT
theorem nest_cmp (tx : List UInt8) : (!(40 :: (tx ++ [41]) == (({ data := #[40] } : ByteArray) ++ { data := tx.toArray } ++ { data := #[41] }).toList)) = false := by
  have : (({ data := #[40] } : ByteArray) ++ { data := tx.toArray } ++ { data := #[41] }) = ⟨(40 :: (tx ++ [41])).toArray⟩ := by
    apply ByteArray.ext; simp
  rw [this]
  simp
theorem err_four (w : World) (hg : ErrTypeAt w) : Calls Tryd.prog 16 #[.iface 27 (.int .i64 4), .int .i64 4] w fun ev w' => ev = .returned (.bool true) ∧ Below w.heap.size w w' := by
  have := error_yes 4 w hg
  rwa [errV_ne (by decide)] at this
set_option maxHeartbeats 16000000 in
theorem valNests_go (w : World) (hP : PowAt w) (hE : NumErrsAt w) (hG : ErrTypeAt w) {v0 : Value} (a : VT) (o0 : ValAt w v0 a) (ba : VT.wt a ≤ 30000000) (n : Int) (hn : In64 n) :
    Calls Tryd.prog 6 #[v0, .int .i64 n] w fun e w' => e = .returned (.bool true) ∧ Below w.heap.size w w' := by
  obtain ⟨l0, n0, k0, g0, c0, rfl⟩ := o0.shape
  have HP := Lib.hid hP
  have HE := Lib.hid hE
  have HG := Lib.hid hG
  have HA := Lib.hid o0
  clear hP hE hG o0
  go_enter Tryd.func6, Tryd.ntmps6
  go_wp2_with fail
  generalize hW0 : (w.alloc (.cells #[.bool l0, .int .i64 n0, .slice g0 k0 c0] 34)) = W0
  have hB0 : Below w.heap.size w W0 := by rw [← hW0]; repeat (first | with_reducible assumption | with_reducible exact Below.refl _ _ | with_reducible apply Below.drew | (with_reducible refine Below.alloc ?_ (by first | omega | (simp only [zA, zS, zD, zN]; omega) | (dsimp only; omega) | (simp only [zA, zS, zD, zN]; dsimp only; omega)) _) | (with_reducible refine Below.setCell ?_ (by first | omega | (simp only [zA, zS, zD, zN]; omega) | (dsimp only; omega) | (simp only [zA, zS, zD, zN]; dsimp only; omega)) _) | (with_reducible apply below_drewN))
  have X0 : Blk W0 (w.heap.size) #[.bool l0, .int .i64 n0, .slice g0 k0 c0] 34 := by rw [← hW0]; exact (Blk.new w #[.bool l0, .int .i64 n0, .slice g0 k0 c0] 34)
  clear hW0
  refine (five_fact _ (HP.out.ext hB0) (HE.out.ext hB0)).mono ?_
  rintro e W1 ⟨rfl, hb⟩
  have hB1 : Below w.heap.size w W1 := hB0.trans (hb.mono hB0.size)
  have X0 := X0.ext hb
  clear hb hB0
  have z0 := X0.cell 0
  have z1 := X0.cell 1
  have z2 := X0.cell 2
  simp only [List.getElem?_toArray, List.getElem?_cons_succ, List.getElem?_cons_zero] at z0 z1 z2
  go_wp2_with fail
  refine (valCheck_any a _ _ (HA.out.ext hB1)).mono ?_
  rintro e W2 ⟨rfl, hb⟩
  have hB2 : Below w.heap.size w W2 := hB1.trans (hb.mono hB1.size)
  have X0 := X0.ext hb
  clear hb hB1
  clear z0 z1 z2
  by_cases ha : VT.chk a 0 = 0
  case neg =>
    rw [errV_ne ha]
    clear ha
    go_wp2_with fail
    go_ret
    exact ⟨rfl, hB2⟩
  rw [ha, errV_zero]
  have HCA := Lib.hid ha
  clear ha
  have z0 := X0.cell 0
  have z1 := X0.cell 1
  have z2 := X0.cell 2
  simp only [List.getElem?_toArray, List.getElem?_cons_succ, List.getElem?_cons_zero] at z0 z1 z2
  go_wp2_with fail
  clear z0 z1 z2
  obtain ⟨P, hP⟩ : ∃ P, P = W2.heap.size := ⟨_, rfl⟩
  have hPw : w.heap.size ≤ P := by rw [hP]; exact hB2.size
  have XP := Blk.new W2 #[.bool l0, .int .i64 n0, .slice g0 k0 c0] 34
  rw [← hP] at XP ⊢
  have hB9 : Below w.heap.size w (W2.alloc (.cells #[.bool l0, .int .i64 n0, .slice g0 k0 c0] 34)) := by repeat (first | with_reducible assumption | with_reducible exact Below.refl _ _ | with_reducible apply Below.drew | (with_reducible refine Below.alloc ?_ (by first | omega | (simp only [zA, zS, zD, zN]; omega) | (dsimp only; omega) | (simp only [zA, zS, zD, zN]; dsimp only; omega)) _) | (with_reducible refine Below.setCell ?_ (by first | omega | (simp only [zA, zS, zD, zN]; omega) | (dsimp only; omega) | (simp only [zA, zS, zD, zN]; dsimp only; omega)) _) | (with_reducible apply below_drewN))
  have HV : Hid (ValIn (fun b => b ≠ P) (W2.alloc (.cells #[.bool l0, .int .i64 n0, .slice g0 k0 c0] 34)) (.agg #[.bool l0, .int .i64 n0, .slice g0 k0 c0]) (VT.nest a 0)) :=
    HA.out.keep hB9.size (fun b _ hlt => ⟨by omega, hB9.block b hlt⟩)
  generalize (W2.alloc (.cells #[.bool l0, .int .i64 n0, .slice g0 k0 c0] 34)) = V9 at *
  clear hB2 X0 HA hP
  go_loopw [7] (fun i wr => ∃ (j : Nat) (l1 : Bool) (n1 : Int) (g1 : Option Addr) (k1 c1 : Nat), i = .int .i64 j ∧ (j = 0 ∨ (j : Int) ≤ n) ∧ Below w.heap.size w wr ∧ Blk wr P #[.bool l1, .int .i64 n1, .slice g1 k1 c1] 34 ∧
    Hid (ValIn (fun b => b ≠ P) wr (.agg #[.bool l1, .int .i64 n1, .slice g1 k1 c1]) (VT.nest a j)) ∧ Hid (VT.chk (VT.nest a j) 0 = 0)) (fun i _ => 7 - (intOf i).toNat)
  case atStart => exact ⟨0, l0, n0, g0, k0, c0, rfl, .inl rfl, hB9, XP, HV, HCA⟩
  case round =>
    obtain ⟨j, l1, n1, g1, k1, c1, rfl, hjn, hBr, XR, HVR, HCR⟩ := hrel
    clear hB9 XP HV
    have hj6 : j ≤ 6 := VT.nest_le HCR.out
    have q0 : (0 : Int) ≤ (j : Int) := by omega
    have q7 : (j : Int) < 7 := by omega
    by_cases hlt : (j : Int) < n
    · have hPr := XR.lt
      have hne : wr.heap.size ≠ P := by omega
      have z0 := XR.cell 0
      have z1 := XR.cell 1
      have z2 := XR.cell 2
      simp only [List.getElem?_toArray, List.getElem?_cons_succ, List.getElem?_cons_zero] at z0 z1 z2
      go_wp2_with fail
      generalize hW1 : (wr.alloc (.cells #[.bool l1, .int .i64 n1, .slice g1 k1 c1] 34)).alloc (.cells #[.bool true, .int .i64 0, .slice (some ⟨wr.heap.size, 0, none⟩) 1 1] 34) = W1
      have hb1 : Below wr.heap.size wr W1 := by rw [← hW1]; repeat (first | with_reducible assumption | with_reducible exact Below.refl _ _ | with_reducible apply Below.drew | (with_reducible refine Below.alloc ?_ (by first | omega | (simp only [zA, zS, zD, zN]; omega) | (dsimp only; omega) | (simp only [zA, zS, zD, zN]; dsimp only; omega)) _) | (with_reducible refine Below.setCell ?_ (by first | omega | (simp only [zA, zS, zD, zN]; omega) | (dsimp only; omega) | (simp only [zA, zS, zD, zN]; dsimp only; omega)) _) | (with_reducible apply below_drewN))
      have XA : Blk W1 wr.heap.size #[.bool l1, .int .i64 n1, .slice g1 k1 c1] 34 := by rw [← hW1]; exact (Blk.new wr _ _).alloc _
      have XB : Blk W1 (wr.heap.size + 1) #[.bool true, .int .i64 0, .slice (some ⟨wr.heap.size, 0, none⟩) 1 1] 34 := by rw [← hW1]; exact (show Blk ((wr.alloc (.cells #[.bool l1, .int .i64 n1, .slice g1 k1 c1] 34)).alloc _) (wr.heap.size + 1) _ _ by simpa using Blk.new (wr.alloc (.cells #[.bool l1, .int .i64 n1, .slice g1 k1 c1] 34)) #[.bool true, .int .i64 0, .slice (some ⟨wr.heap.size, 0, none⟩) 1 1] 34)
      have XR1 := XR.ext hb1
      have HK := Lib.hid (HVR.out.ext hb1)
      have HN : Hid (ValIn (fun b => b ≠ P) W1 (.agg #[.bool true, .int .i64 0, .slice (some ⟨wr.heap.size, 0, none⟩) 1 1]) (VT.nest a (j + 1))) :=
        ValIn.mk (s := [VT.nest a j]) ⟨by decide, by decide⟩ (by simp) (by decide) (fun _ => .agg #[.bool l1, .int .i64 n1, .slice g1 k1 c1])
          (fun _ => ⟨wr.heap.size, 0, rfl, XA.lt, hne, fun i hi => by
            have : i = 0 := by simp at hi; omega
            subst this
            exact ⟨_, _, _, rfl, by simpa using XA.cell 0, by simpa using XA.cell 1, by simpa using XA.cell 2⟩⟩)
          (fun i hi => by
            have : i = 0 := by simp at hi; omega
            subst this
            exact HK.out)
      have hB1 : Below w.heap.size w W1 := hBr.trans (hb1.mono hBr.size)
      have CC := Lib.hid (valCheck_any (VT.nest a (j + 1)) _ W1 HN.out.at)
      have hPQ : P < wr.heap.size := hPr
      clear hW1 hb1 XA z0 z1 z2 XR hne
      generalize wr.heap.size = N at *
      have z0 := XB.cell 0
      have z1 := XB.cell 1
      have z2 := XB.cell 2
      simp only [List.getElem?_toArray, List.getElem?_cons_succ, List.getElem?_cons_zero] at z0 z1 z2
      go_wp2_with fail
      refine CC.out.mono ?_
      rintro e W2 ⟨rfl, hb⟩
      have hB2 : Below w.heap.size w W2 := hB1.trans (hb.mono hB1.size)
      have XB2 := XB.ext hb
      have XR2 := XR1.ext hb
      have HN2 := Lib.hid (HN.out.ext hb)
      have HK2 := Lib.hid (HK.out.ext hb)
      clear hb z0 z1 z2 CC XB XR1 HN HK hB1
      by_cases hc : VT.chk (VT.nest a (j + 1)) 0 = 0
      case neg =>
        have h4 : VT.chk (VT.nest a (j + 1)) 0 = 4 := (VT.nest_cases HCA.out (j + 1) 0).resolve_left hc
        rw [h4, errV_ne (by decide)]
        clear hc h4
        go_wp2_with fail
        go_quiet (fail)
        go_wp2_with fail
        have hBq : Below w.heap.size w (W2.drewN nq) := hB2.trans ⟨rfl, rfl, rfl, Nat.le_refl _, fun _ _ => rfl⟩
        refine (err_four _ (HG.out.ext hBq)).mono ?_
        rintro e W3 ⟨rfl, hb⟩
        have hB3 : Below w.heap.size w W3 := hBq.trans (hb.mono hB2.size)
        clear hb
        go_wp2_with fail
        go_ret
        exact ⟨rfl, hB3⟩
      rw [hc, errV_zero]
      have HCN := Lib.hid hc
      clear hc
      have HTN := Lib.hid (VT.text_nest a j)
      have hl1 : (VT.text (VT.nest a j)).length ≤ 1000000000 := by have := VT.text_wt _ HK2.out.nums; rw [VT.nest_wt] at this; omega
      have hl2 : (VT.text (VT.nest a (j + 1))).length ≤ 1000000002 := by rw [HTN.out]; simp; omega
      have hw1 : VT.wt (VT.nest a j) ≤ 1000000000 := by rw [VT.nest_wt]; omega
      have hw2 : VT.wt (VT.nest a (j + 1)) ≤ 1000000000 := by rw [VT.nest_wt]; omega
      have C1 := Lib.hid (fun W hp (h : ValAt W (.agg #[.bool true, .int .i64 0, .slice (some ⟨N, 0, none⟩) 1 1]) _) => text_any (VT.nest a (j + 1)) _ W hp h (by omega) hw2)
      have C2 := Lib.hid (fun W hp (h : ValAt W (.agg #[.bool l1, .int .i64 n1, .slice g1 k1 c1]) _) => text_any (VT.nest a j) _ W hp h (by omega) hw1)
      rw [HTN.out] at C1
      generalize VT.text (VT.nest a j) = tx at *
      clear hl2 hw1 hw2
      go_wp2_with fail
      refine region_mov (S := fun w' => w'.cell? ⟨N + 1, 0, none⟩ = some (.bool true) ∧ w'.cell? ⟨N + 1, 1, none⟩ = some (.int .i64 0) ∧ w'.cell? ⟨N + 1, 2, none⟩ = some (.slice (some ⟨N, 0, none⟩) 1 1) ∧ w'.cell? ⟨P, 0, none⟩ = some (.bool l1) ∧ w'.cell? ⟨P, 1, none⟩ = some (.int .i64 n1) ∧ w'.cell? ⟨P, 2, none⟩ = some (.slice g1 k1 c1)) (n := 10) (ms := [(true, 0), (true, 1), (true, 2), (true, 3), (true, 5), (false, 4), (false, 6), (false, 7), (false, 8), (false, 9), (false, 10)]) (hm := by kernel_rfl) (hB := by kernel_rfl) (hQ := fun c a d v w h => by cases d <;> exact h) ?_
      have HS0 : Hid ((fun w' => w'.cell? ⟨N + 1, 0, none⟩ = some (.bool true) ∧ w'.cell? ⟨N + 1, 1, none⟩ = some (.int .i64 0) ∧ w'.cell? ⟨N + 1, 2, none⟩ = some (.slice (some ⟨N, 0, none⟩) 1 1) ∧ w'.cell? ⟨P, 0, none⟩ = some (.bool l1) ∧ w'.cell? ⟨P, 1, none⟩ = some (.int .i64 n1) ∧ w'.cell? ⟨P, 2, none⟩ = some (.slice g1 k1 c1)) W2.drew) := ⟨(XB2).cell 0, (XB2).cell 1, (XB2).cell 2, (XR2).cell 0, (XR2).cell 1, (XR2).cell 2⟩
      iterate 5
        rw [mov_take]
        simp only [List.getElem?_toArray, List.getElem?_cons_succ, List.getElem?_cons_zero]
        refine ⟨?_, .inl ⟨by rfl, ?_⟩, HS0.out, ?_⟩
        rotate_left
        · rintro w' ⟨s0, s1, s2, s3, s4, s5⟩
          go_simp
          rfl
        simp only [Act.put, List.setIfInBounds_toArray, List.set_cons_zero, List.set_cons_succ]
      have hBd : Below w.heap.size w W2.drew := hB2.drew
      have XDXB2 : Blk W2.drew (N + 1) #[.bool true, .int .i64 0, .slice (some ⟨N, 0, none⟩) 1 1] 34 := XB2
      have XDXR2 : Blk W2.drew (P) #[.bool l1, .int .i64 n1, .slice g1 k1 c1] 34 := XR2
      have HN2 := Lib.hid (HN2.out.ext (Below.drew (Below.refl _ _) : Below W2.heap.size W2 W2.drew))
      have HK2 := Lib.hid (HK2.out.ext (Below.drew (Below.refl _ _) : Below W2.heap.size W2 W2.drew))
      clear HS0 hB2 XB2 XR2
      generalize W2.drew = Wd3 at *
      have XB2 := XDXB2
      have XR2 := XDXR2
      clear XDXB2 XDXR2
      have HS : Hid (∀ W', Below (Wd3).heap.size (Wd3) W' → (fun w' => w'.cell? ⟨N + 1, 0, none⟩ = some (.bool true) ∧ w'.cell? ⟨N + 1, 1, none⟩ = some (.int .i64 0) ∧ w'.cell? ⟨N + 1, 2, none⟩ = some (.slice (some ⟨N, 0, none⟩) 1 1) ∧ w'.cell? ⟨P, 0, none⟩ = some (.bool l1) ∧ w'.cell? ⟨P, 1, none⟩ = some (.int .i64 n1) ∧ w'.cell? ⟨P, 2, none⟩ = some (.slice g1 k1 c1)) W') := fun W' h => ⟨(XB2.ext h).cell 0, (XB2.ext h).cell 1, (XB2.ext h).cell 2, (XR2.ext h).cell 0, (XR2.ext h).cell 1, (XR2.ext h).cell 2⟩
      rw [mov_step]
      simp only [List.getElem?_toArray, List.getElem?_cons_succ, List.getElem?_cons_zero]
      go_wp2_with fail
      refine (C1.out _ (HP.out.ext hBd) HN2.out.at).mono ?_
      rintro e V3_0 ⟨rfl, hb⟩
      have hC0 : Below Wd3.heap.size Wd3 V3_0 := hb
      have HN2 := Lib.hid (HN2.out.ext hb)
      have HK2 := Lib.hid (HK2.out.ext hb)
      clear hb
      go_wp2_with fail
      refine And.intro (fun _ => HS.out _ hC0) ?_
      rw [mov_step]
      simp only [List.getElem?_toArray, List.getElem?_cons_succ, List.getElem?_cons_zero]
      go_wp2_with fail
      refine (C2.out _ (HP.out.ext (hBd.trans (hC0.mono hBd.size))) HK2.out.at).mono ?_
      rintro e V3_1 ⟨rfl, hb⟩
      have hC1 : Below Wd3.heap.size Wd3 V3_1 := hC0.trans (hb.mono hC0.size)
      have HN2 := Lib.hid (HN2.out.ext hb)
      have HK2 := Lib.hid (HK2.out.ext hb)
      clear hb
      go_wp2_with fail
      refine And.intro (fun _ => HS.out _ hC1) ?_
      rw [mov_step]
      simp only [List.getElem?_toArray, List.getElem?_cons_succ, List.getElem?_cons_zero]
      go_wp2_with fail
      refine And.intro (fun _ => HS.out _ hC1) ?_
      rw [mov_step]
      simp only [List.getElem?_toArray, List.getElem?_cons_succ, List.getElem?_cons_zero]
      go_wp2_with fail
      refine And.intro (fun _ => HS.out _ hC1) ?_
      rw [mov_step]
      simp only [List.getElem?_toArray, List.getElem?_cons_succ, List.getElem?_cons_zero]
      go_wp2_with fail
      refine And.intro (fun _ => HS.out _ hC1) ?_
      rw [mov_step]
      simp only [List.getElem?_toArray, List.getElem?_cons_succ, List.getElem?_cons_zero]
      go_wp2_with fail
      refine And.intro (fun h => absurd h (by omega)) ?_
      rw [wpMov]
      have hB4 : Below w.heap.size w V3_1 := hBd.trans (hC1.mono hBd.size)
      have XB2 := XB2.ext hC1
      have XR2 := XR2.ext hC1
      clear HS hBd hC0 hC1
      have y0 := XB2.cell 0
      have y1 := XB2.cell 1
      have y2 := XB2.cell 2
      simp only [List.getElem?_toArray, List.getElem?_cons_succ, List.getElem?_cons_zero] at y0 y1 y2
      have z0 := XR2.cell 0
      have z1 := XR2.cell 1
      have z2 := XR2.cell 2
      simp only [List.getElem?_toArray, List.getElem?_cons_succ, List.getElem?_cons_zero] at z0 z1 z2
      have u0 := XR2.unfrozen 0
      have u1 := XR2.unfrozen 1
      have u2 := XR2.unfrozen 2
      have hlp := XR2.lt
      clear C1 C2 HK2 HTN
      have ee := nest_cmp tx
      go_wp2_with fail
      · exfalso
        rename_i hq
        rw [ee] at hq
        cases hq
      have XF := ((XR2.set 0 (.bool true)).set 1 (.int .i64 0)).set 2 (.slice (some ⟨N, 0, none⟩) 1 1)
      simp only [List.setIfInBounds_toArray, List.set_cons_zero, List.set_cons_succ] at XF
      have hBF : Below w.heap.size w (((V3_1.setCell ⟨P, 0, none⟩ (.bool true)).setCell ⟨P, 1, none⟩ (.int .i64 0)).setCell ⟨P, 2, none⟩ (.slice (some ⟨N, 0, none⟩) 1 1)) := by repeat (first | with_reducible assumption | with_reducible exact Below.refl _ _ | with_reducible apply Below.drew | (with_reducible refine Below.alloc ?_ (by first | omega | (simp only [zA, zS, zD, zN]; omega) | (dsimp only; omega) | (simp only [zA, zS, zD, zN]; dsimp only; omega)) _) | (with_reducible refine Below.setCell ?_ (by first | omega | (simp only [zA, zS, zD, zN]; omega) | (dsimp only; omega) | (simp only [zA, zS, zD, zN]; dsimp only; omega)) _) | (with_reducible apply below_drewN))
      have HF : Hid (ValIn (fun b => b ≠ P) (((V3_1.setCell ⟨P, 0, none⟩ (.bool true)).setCell ⟨P, 1, none⟩ (.int .i64 0)).setCell ⟨P, 2, none⟩ (.slice (some ⟨N, 0, none⟩) 1 1)) (.agg #[.bool true, .int .i64 0, .slice (some ⟨N, 0, none⟩) 1 1]) (VT.nest a (j + 1))) :=
        HN2.out.keep (by simp only [size_setCell]; exact Nat.le_refl _) (fun b hb _ => ⟨hb, by
          rw [Below.heap_setCell _ _ _ _ hb, Below.heap_setCell _ _ _ _ hb, Below.heap_setCell _ _ _ _ hb]⟩)
      exact ⟨⟨j + 1, true, 0, _, 1, 1, by go_num, .inr (by omega), hBF, XF, HF, HCN⟩, by simp [intOf]; omega⟩
    · have q1 : ¬ (j : Int) < n := hlt
      have q3 : n < 7 := by omega
      go_wp2_with fail
      go_ret
      exact ⟨by simp, hBr⟩
theorem valNests_walk (w : World) (hP : PowAt w) (hE : NumErrsAt w) (hG : ErrTypeAt w) {v0 v1 : Value} {m0 m1 : Nat} (a : VT) (o0 : ValAt w v0 a) (b0 : VT.wt a ≤ m0) (n : Int) (o1 : IntAt v1 n) (hs : m0 + (m1 + 0) ≤ 1048576) :
    Calls Tryd.prog 6 #[v0, v1] w fun e w' => e = .returned (.bool true) ∧ Below w.heap.size w w' := by
  obtain ⟨rfl, hn⟩ := o1
  exact valNests_go w hP hE hG a o0 (by omega) n hn
end Go.Proofs.YtibmnifenfingaaDoor
