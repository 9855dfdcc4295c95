/- The walks through a value's check. -/
import Derived.Test.YtocngjpjheockaaPVT
import Derived.Deep.DeepCutAuto
namespace Go.Proofs.Ytocngjpjheockaa
set_option maxRecDepth 100000
open Go.RowKit
set_option linter.unusedSimpArgs false
set_option linter.unusedVariables false
set_option maxHeartbeats 4000000 in
theorem valcheck_any (t : VT) : ∀ (d : Nat) (v : Value) (w : World), d ≤ 6 → ValAt w v t → Calls Try.prog 40 #[v, .int .i64 d] w fun e w' => e = .returned (errV (VT.chk t d)) ∧ Below w.heap.size w w' := by
  induction t using VT.ind with
  | h l n s ih =>
    intro d v w hd hv
    obtain ⟨l', n', s', ad, cap, hmk, rfl, hn, hl, hm, hs⟩ := hv.form
    obtain ⟨rfl, rfl, rfl⟩ := VT.mk.inj hmk
    clear hv hmk
    have IH := Lib.hid ih
    clear ih
    have hcase : (l = true ∧ n ≠ 0) ∨ (l = false ∧ s.length ≠ 0) ∨ (l = true ∧ n = 0) ∨ (l = false ∧ s.length = 0) := by
      cases l
      · by_cases h : s.length = 0
        · exact .inr (.inr (.inr ⟨rfl, h⟩))
        · exact .inr (.inl ⟨rfl, h⟩)
      · by_cases h : n = 0
        · exact .inr (.inr (.inl ⟨rfl, h⟩))
        · exact .inl ⟨rfl, h⟩
    rcases hcase with ⟨rfl, h⟩ | ⟨rfl, h⟩ | ⟨rfl, rfl⟩ | ⟨rfl, h⟩
    · have hr : VT.chk (.mk true n s) d = 3 := by simp [VT.chk, h]
      rw [hr]
      have z1 : (n != 0) = true := by simp [h]
      clear h hr
      go_enter Try.func40, Try.ntmps40
      go_wp2_with fail
      go_ret
      exact ⟨rfl, by repeat (first | with_reducible assumption | with_reducible exact Below.refl _ _ | with_reducible apply Below.drew | (with_reducible refine Below.alloc ?_ (by first | omega | (simp only [zA, zS, zD, zN]; omega) | (dsimp only; omega) | (simp only [zA, zS, zD, zN]; dsimp only; omega)) _) | (with_reducible refine Below.setCell ?_ (by first | omega | (simp only [zA, zS, zD, zN]; omega) | (dsimp only; omega) | (simp only [zA, zS, zD, zN]; dsimp only; omega)) _) | (with_reducible apply below_drewN))⟩
    · have hr : VT.chk (.mk false n s) d = 3 := by simp [VT.chk]; intro e; simp [e] at h
      rw [hr]
      have z1 : 0 < (s.length : Int) := by omega
      clear h hr
      go_enter Try.func40, Try.ntmps40
      go_wp2_with fail
      go_ret
      exact ⟨rfl, by repeat (first | with_reducible assumption | with_reducible exact Below.refl _ _ | with_reducible apply Below.drew | (with_reducible refine Below.alloc ?_ (by first | omega | (simp only [zA, zS, zD, zN]; omega) | (dsimp only; omega) | (simp only [zA, zS, zD, zN]; dsimp only; omega)) _) | (with_reducible refine Below.setCell ?_ (by first | omega | (simp only [zA, zS, zD, zN]; omega) | (dsimp only; omega) | (simp only [zA, zS, zD, zN]; dsimp only; omega)) _) | (with_reducible apply below_drewN))⟩
    · by_cases h6 : 6 ≤ d
      · have hr : VT.chk (.mk true 0 s) d = 4 := by simp [VT.chk, h6]
        rw [hr]
        have z1 : (6 : Int) ≤ (d : Int) := by omega
        clear h6 hr
        go_enter Try.func40, Try.ntmps40
        go_wp2_with fail
        go_ret
        exact ⟨rfl, by repeat (first | with_reducible assumption | with_reducible exact Below.refl _ _ | with_reducible apply Below.drew | (with_reducible refine Below.alloc ?_ (by first | omega | (simp only [zA, zS, zD, zN]; omega) | (dsimp only; omega) | (simp only [zA, zS, zD, zN]; dsimp only; omega)) _) | (with_reducible refine Below.setCell ?_ (by first | omega | (simp only [zA, zS, zD, zN]; omega) | (dsimp only; omega) | (simp only [zA, zS, zD, zN]; dsimp only; omega)) _) | (with_reducible apply below_drewN))⟩
      have hr : VT.chk (.mk true 0 s) d = VT.chkL s (d + 1) := by simp [VT.chk, h6]
      rw [hr]
      have z1 : ¬ (6 : Int) ≤ (d : Int) := by omega
      clear hr
      go_enter Try.func40, Try.ntmps40
      go_wp2_with fail
      generalize hWW : w.alloc (.cells #[.bool true, .int .i64 0, .slice ad s.length cap] 48) = W0
      have hB0 : Below w.heap.size w W0 := by rw [← hWW]; repeat (first | with_reducible assumption | with_reducible exact Below.refl _ _ | with_reducible apply Below.drew | (with_reducible refine Below.alloc ?_ (by first | omega | (simp only [zA, zS, zD, zN]; omega) | (dsimp only; omega) | (simp only [zA, zS, zD, zN]; dsimp only; omega)) _) | (with_reducible refine Below.setCell ?_ (by first | omega | (simp only [zA, zS, zD, zN]; omega) | (dsimp only; omega) | (simp only [zA, zS, zD, zN]; dsimp only; omega)) _) | (with_reducible apply below_drewN))
      have hs1 := hs.ext hB0
      clear hs hWW
      go_loopw [33] (fun i wr => ∃ j : Nat, j ≤ s.length ∧ i = .int .i64 j ∧ Below W0.heap.size W0 wr ∧ Hid (VT.chkL (s.drop 0) (d + 1) = VT.chkL (s.drop j) (d + 1))) (fun i _ => s.length - (intOf i).toNat)
      case atStart => exact ⟨0, by omega, rfl, Below.refl _ _, rfl⟩
      case round =>
        obtain ⟨j, hj, rfl, hb2, HE⟩ := hrel
        have hzr := hb2.size
        have hz0 := hB0.size
        have hBr : Below w.heap.size w wr := hB0.trans (hb2.mono hB0.size)
        by_cases hlt : j < s.length
        · have p0 : (0 : Int) ≤ (j : Int) := by omega
          have p1 : (j : Int) < (s.length : Int) := by omega
          obtain ⟨bl, off, rfl, hlt1, hc⟩ := (hs1.ext hb2).at' (by omega)
          obtain ⟨l2, n2, ad2, t2, cap2, c0, c1, c2, hg2⟩ := hc j hlt
          clear hc hs1
          have CK : Hid (∀ W, Below wr.heap.size wr W → Calls Try.prog 40 #[.agg #[.bool l2, .int .i64 n2, .slice ad2 t2 cap2], .int .i64 ((d : Int) + 1)] W fun e w' => e = .returned (errV (VT.chk s[j] (d + 1))) ∧ Below W.heap.size W w') := fun W hW => IH.out s[j] (List.getElem_mem hlt) (d + 1) (.agg #[.bool l2, .int .i64 n2, .slice ad2 t2 cap2]) W (by omega) (hg2.ext hW)
          have ST := Lib.hid (VT.chkL_step s (d + 1) j hlt)
          generalize VT.chk s[j] (d + 1) = ej at *
          go_wp2_with fail
          refine (CK.out _ (by repeat (first | with_reducible assumption | with_reducible exact Below.refl _ _ | with_reducible apply Below.drew | (with_reducible refine Below.alloc ?_ (by first | omega | (simp only [zA, zS, zD, zN]; omega) | (dsimp only; omega) | (simp only [zA, zS, zD, zN]; dsimp only; omega)) _) | (with_reducible refine Below.setCell ?_ (by first | omega | (simp only [zA, zS, zD, zN]; omega) | (dsimp only; omega) | (simp only [zA, zS, zD, zN]; dsimp only; omega)) _) | (with_reducible apply below_drewN)))).mono ?_
          rintro e w3 ⟨rfl, hb3⟩
          have hB3 : Below W0.heap.size W0 w3 := Below.trans (by repeat (first | with_reducible assumption | with_reducible exact Below.refl _ _ | with_reducible apply Below.drew | (with_reducible refine Below.alloc ?_ (by first | omega | (simp only [zA, zS, zD, zN]; omega) | (dsimp only; omega) | (simp only [zA, zS, zD, zN]; dsimp only; omega)) _) | (with_reducible refine Below.setCell ?_ (by first | omega | (simp only [zA, zS, zD, zN]; omega) | (dsimp only; omega) | (simp only [zA, zS, zD, zN]; dsimp only; omega)) _) | (with_reducible apply below_drewN))) (hb3.mono (by first | omega | (simp only [zA, zS, zD, zN]; omega) | (dsimp only; omega) | (simp only [zA, zS, zD, zN]; dsimp only; omega)))
          have hBw : Below w.heap.size w w3 := hB0.trans (hB3.mono hB0.size)
          clear hb3
          by_cases he : ej = 0
          · have HE2 := ST.out
            rw [if_pos he] at HE2
            rw [he, errV_zero]
            clear he
            have HE3 := Lib.hid (HE.out.trans HE2)
            clear HE2
            go_wp2_with fail
            exact ⟨⟨j + 1, by omega, by go_num, hB3, HE3⟩, by simp [intOf]; omega⟩
          · have HE2 := ST.out
            rw [if_neg he] at HE2
            have HE3 := Lib.hid (HE.out.trans HE2)
            clear HE2
            rw [errV_ne he]
            have HN := Lib.hid he
            clear he
            go_wp2_with fail
            go_ret
            refine ⟨?_, hBw⟩
            have e1 : VT.chkL s (d + 1) = ej := HE3.out
            rw [e1, errV_ne HN.out]
            rfl
        · have hj' : j = s.length := by omega
          have HE2 := HE.out
          rw [hj', List.drop_length] at HE2
          have HE3 := Lib.hid HE2
          clear HE2 hj'
          have p1 : ¬ (j : Int) < (s.length : Int) := by omega
          go_wp2_with fail
          go_ret
          refine ⟨?_, hBr⟩
          have e1 : VT.chkL s (d + 1) = 0 := HE3.out
          rw [e1]
          rfl
    · have hse : s = [] := List.length_eq_zero_iff.1 h
      have z2 : ¬ 0 < (s.length : Int) := by omega
      by_cases h6 : 6 ≤ d
      · have hr : VT.chk (.mk false n s) d = 4 := by simp [VT.chk, h6, hse]
        rw [hr]
        have z1 : (6 : Int) ≤ (d : Int) := by omega
        clear h6 hr hse h
        go_enter Try.func40, Try.ntmps40
        go_wp2_with fail
        go_ret
        exact ⟨rfl, by repeat (first | with_reducible assumption | with_reducible exact Below.refl _ _ | with_reducible apply Below.drew | (with_reducible refine Below.alloc ?_ (by first | omega | (simp only [zA, zS, zD, zN]; omega) | (dsimp only; omega) | (simp only [zA, zS, zD, zN]; dsimp only; omega)) _) | (with_reducible refine Below.setCell ?_ (by first | omega | (simp only [zA, zS, zD, zN]; omega) | (dsimp only; omega) | (simp only [zA, zS, zD, zN]; dsimp only; omega)) _) | (with_reducible apply below_drewN))⟩
      have hr : VT.chk (.mk false n s) d = VT.chkL s (d + 1) := by simp [VT.chk, h6, hse]
      rw [hr]
      have z1 : ¬ (6 : Int) ≤ (d : Int) := by omega
      clear hr hse h
      go_enter Try.func40, Try.ntmps40
      go_wp2_with fail
      generalize hWW : w.alloc (.cells #[.bool false, .int .i64 n, .slice ad s.length cap] 48) = W0
      have hB0 : Below w.heap.size w W0 := by rw [← hWW]; repeat (first | with_reducible assumption | with_reducible exact Below.refl _ _ | with_reducible apply Below.drew | (with_reducible refine Below.alloc ?_ (by first | omega | (simp only [zA, zS, zD, zN]; omega) | (dsimp only; omega) | (simp only [zA, zS, zD, zN]; dsimp only; omega)) _) | (with_reducible refine Below.setCell ?_ (by first | omega | (simp only [zA, zS, zD, zN]; omega) | (dsimp only; omega) | (simp only [zA, zS, zD, zN]; dsimp only; omega)) _) | (with_reducible apply below_drewN))
      have hs1 := hs.ext hB0
      clear hs hWW
      go_loopw [33] (fun i wr => ∃ j : Nat, j ≤ s.length ∧ i = .int .i64 j ∧ Below W0.heap.size W0 wr ∧ Hid (VT.chkL (s.drop 0) (d + 1) = VT.chkL (s.drop j) (d + 1))) (fun i _ => s.length - (intOf i).toNat)
      case atStart => exact ⟨0, by omega, rfl, Below.refl _ _, rfl⟩
      case round =>
        obtain ⟨j, hj, rfl, hb2, HE⟩ := hrel
        have hzr := hb2.size
        have hz0 := hB0.size
        have hBr : Below w.heap.size w wr := hB0.trans (hb2.mono hB0.size)
        by_cases hlt : j < s.length
        · exfalso; omega
        · have hj' : j = s.length := by omega
          have HE2 := HE.out
          rw [hj', List.drop_length] at HE2
          have HE3 := Lib.hid HE2
          clear HE2 hj'
          have p1 : ¬ (j : Int) < (s.length : Int) := by omega
          go_wp2_with fail
          go_ret
          refine ⟨?_, hBr⟩
          have e1 : VT.chkL s (d + 1) = 0 := HE3.out
          rw [e1]
          rfl
set_option maxHeartbeats 1000000 in
theorem valCheck_any (t : VT) (v : Value) (w : World) (hv : ValAt w v t) : Calls Try.prog 24 #[v] w fun e w' => e = .returned (errV (VT.chk t 0)) ∧ Below w.heap.size w w' := by
  obtain ⟨l, n, k, ad, cap, rfl⟩ := hv.shape
  have C1 : Hid (∀ W, Below w.heap.size w W → Calls Try.prog 40 #[.agg #[.bool l, .int .i64 n, .slice ad k cap], .int .i64 0] W fun e w' => e = .returned (errV (VT.chk t 0)) ∧ Below W.heap.size W w') := fun W hW => valcheck_any t 0 _ W (by omega) (hv.ext hW)
  clear hv
  generalize errV (VT.chk t 0) = ev at *
  go_enter Try.func24, Try.ntmps24
  go_wp2_with fail
  refine (C1.out _ (by repeat (first | with_reducible assumption | with_reducible exact Below.refl _ _ | with_reducible apply Below.drew | (with_reducible refine Below.alloc ?_ (by first | omega | (simp only [zA, zS, zD, zN]; omega) | (dsimp only; omega) | (simp only [zA, zS, zD, zN]; dsimp only; omega)) _) | (with_reducible refine Below.setCell ?_ (by first | omega | (simp only [zA, zS, zD, zN]; omega) | (dsimp only; omega) | (simp only [zA, zS, zD, zN]; dsimp only; omega)) _) | (with_reducible apply below_drewN)))).mono ?_
  rintro e w1 ⟨rfl, hb1⟩
  have hB1 : Below w.heap.size w w1 := Below.trans (by repeat (first | with_reducible assumption | with_reducible exact Below.refl _ _ | with_reducible apply Below.drew | (with_reducible refine Below.alloc ?_ (by first | omega | (simp only [zA, zS, zD, zN]; omega) | (dsimp only; omega) | (simp only [zA, zS, zD, zN]; dsimp only; omega)) _) | (with_reducible refine Below.setCell ?_ (by first | omega | (simp only [zA, zS, zD, zN]; omega) | (dsimp only; omega) | (simp only [zA, zS, zD, zN]; dsimp only; omega)) _) | (with_reducible apply below_drewN))) (hb1.mono (by first | omega | (simp only [zA, zS, zD, zN]; omega) | (dsimp only; omega) | (simp only [zA, zS, zD, zN]; dsimp only; omega)))
  obtain ⟨hc1, hf1, hz1⟩ := bcell hb1
  try simp only [zA, zS, zD, zN] at hz1
  clear hb1
  go_wp2_with fail
  go_ret
  exact ⟨rfl, by repeat (first | with_reducible assumption | with_reducible exact Below.refl _ _ | with_reducible apply Below.drew | (with_reducible refine Below.alloc ?_ (by first | omega | (simp only [zA, zS, zD, zN]; omega) | (dsimp only; omega) | (simp only [zA, zS, zD, zN]; dsimp only; omega)) _) | (with_reducible refine Below.setCell ?_ (by first | omega | (simp only [zA, zS, zD, zN]; omega) | (dsimp only; omega) | (simp only [zA, zS, zD, zN]; dsimp only; omega)) _) | (with_reducible apply below_drewN))⟩
end Go.Proofs.Ytocngjpjheockaa
