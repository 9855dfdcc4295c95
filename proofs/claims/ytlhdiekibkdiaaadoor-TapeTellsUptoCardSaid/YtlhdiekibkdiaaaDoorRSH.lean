/- The walk through the document's answer: which list of numbers is shorter. -/
import Derived.Test.YtlhdiekibkdiaaaDoorTape
import Derived.Deep.DeepCutAuto
import Derived.BigQuiet
namespace Go.Proofs.YtlhdiekibkdiaaaDoor
set_option maxRecDepth 100000
open Go.RowKit
set_option linter.unusedSimpArgs false
set_option linter.unusedVariables false
theorem less_eqlen {a b : List Int} (h : a.length = b.length) : PTape.less a b = decide (PTape.cmpL (a.drop 0) (b.drop 0) < 0) := by
  unfold PTape.less
  rw [if_pos h]; rfl
set_option maxHeartbeats 2000000 in
theorem rshorter_any (va vb : Value) (a b : List Int) (w : World) (ha : IntsAt w va a) (hb : IntsAt w vb b) : Calls Tryd.prog 31 #[va, vb] w fun e w' => e = .returned (.bool (PTape.less a b)) ∧ Below w.heap.size w w' := by
  obtain ⟨ad, ac, rfl, ha1, ha2, _, hac⟩ := ha.form
  obtain ⟨bd, bc, rfl, hb1, hb2, _, hbc⟩ := hb.form
  unfold maxLen at ha2 hb2
  obtain ⟨na, hna⟩ : ∃ n, n = a.length := ⟨_, rfl⟩
  obtain ⟨nb, hnb⟩ : ∃ n, n = b.length := ⟨_, rfl⟩
  rw [← hna, ← hnb]
  have hna2 : na ≤ 9223372036854775807 := by omega
  by_cases he : na = nb
  · have HR := Lib.hid (less_eqlen (show a.length = b.length by omega))
    have q1 : ((na : Int) != (nb : Int)) = false := by simp [he]
    have HA : Hid (0 < na → ∃ bl off, ad = some ⟨bl, off, none⟩ ∧ bl < w.heap.size ∧ ∀ i, i < na → w.cell? ⟨bl, off + i, none⟩ = some (.int .i64 (a.getD i 0))) := by rw [hna]; exact hac
    have HB : Hid (0 < na → ∃ bl off, bd = some ⟨bl, off, none⟩ ∧ bl < w.heap.size ∧ ∀ i, i < na → w.cell? ⟨bl, off + i, none⟩ = some (.int .i64 (b.getD i 0))) := by rw [he, hnb]; exact hbc
    have HN := Lib.hid hna
    have HM : Hid (na = b.length) := by show _ = _; omega
    subst he
    clear hna hnb ha hb ha1 ha2 hb1 hb2 hac hbc
    go_enter Tryd.func31, Tryd.ntmps31
    go_wp2_with fail
    go_loopw [5] (fun i wr => ∃ j k : Nat, j ≤ na ∧ i = .int .i64 j ∧ wr = w.drewN k ∧ Hid (PTape.cmpL (a.drop 0) (b.drop 0) = PTape.cmpL (a.drop j) (b.drop j))) (fun i _ => na - (intOf i).toNat)
    case atStart => exact ⟨0, 0, by omega, rfl, rfl, rfl⟩
    case round =>
      obtain ⟨j, k, hj, rfl, rfl, HE⟩ := hrel
      by_cases hlt : j < na
      · have p0 : (0 : Int) ≤ (j : Int) := by omega
        have p1 : (j : Int) < (na : Int) := by omega
        obtain ⟨b1, o1, rfl, hl1, hc1⟩ := HA.out (by omega)
        obtain ⟨b2, o2, rfl, hl2, hc2⟩ := HB.out (by omega)
        have d1 := hc1 j hlt
        have d2 := hc2 j hlt
        have ST := Lib.hid (PTape.cmp_step a b j (by have := HN.out; omega) (by have := HM.out; omega))
        generalize a.getD j 0 = x at *
        generalize b.getD j 0 = y at *
        clear hc1 hc2
        by_cases hxy : x = y
        · have HE2 : Hid (PTape.cmpL (a.drop 0) (b.drop 0) = PTape.cmpL (a.drop (j + 1)) (b.drop (j + 1))) := by
            have := HE.out.trans ST.out
            rw [if_neg (by omega), if_neg (by omega)] at this
            exact this
          have qx : (x != y) = false := by simp [hxy]
          clear hxy
          go_wp2_with fail
          go_quiet (fail)
          go_wp2_with fail
          exact ⟨⟨j + 1, k + nq, by omega, by go_num, rfl, HE2⟩, by simp [intOf]; omega⟩
        · have qx : (x != y) = true := by simp [hxy]
          have HX : Hid (PTape.less a b = decide (x < y)) := by
            show _ = _
            rw [HR.out, HE.out, ST.out]
            by_cases h : x < y
            · rw [if_pos h]; simp [h]
            · rw [if_neg h, if_pos (by omega)]; simp [h]
          clear hxy
          go_wp2_with fail
          go_quiet (fail)
          go_wp2_with fail
          go_quiet (fail)
          go_wp2_with fail
          go_ret
          exact ⟨by rw [HX.out]; rfl, by rw [World.drewN_drewN, World.drewN_drewN]; exact Joins.below_draws _ _ _⟩
      · have HX : Hid (PTape.less a b = false) := by
          show _ = _
          rw [HR.out, HE.out, List.drop_eq_nil_of_le (by have := HN.out; omega : a.length ≤ j), List.drop_eq_nil_of_le (by have := HM.out; omega : b.length ≤ j)]
          rfl
        have p1 : ¬ (j : Int) < (na : Int) := by omega
        go_wp2_with fail
        go_ret
        exact ⟨by rw [HX.out]; rfl, Joins.below_draws _ _ _⟩
  · have HR : Hid (PTape.less a b = decide (na < nb)) := by
      show _ = _
      unfold PTape.less
      rw [if_neg (by omega), hna, hnb]
    have q1 : ((na : Int) != (nb : Int)) = true := by simp; omega
    have HD : Hid (decide ((na : Int) < (nb : Int)) = decide (na < nb)) := by show _ = _; simp
    clear hna hnb ha hb ha1 ha2 hb1 hb2 hac hbc
    go_enter Tryd.func31, Tryd.ntmps31
    go_wp2_with fail
    go_ret
    exact ⟨by rw [HR.out]; simp, by repeat (first | with_reducible assumption | with_reducible exact Below.refl _ _ | with_reducible apply Below.drew | (with_reducible refine Below.alloc ?_ (by first | omega | (simp only [zA, zS, zD, zN]; omega) | (dsimp only; omega) | (simp only [zA, zS, zD, zN]; dsimp only; omega)) _) | (with_reducible refine Below.setCell ?_ (by first | omega | (simp only [zA, zS, zD, zN]; omega) | (dsimp only; omega) | (simp only [zA, zS, zD, zN]; dsimp only; omega)) _) | (with_reducible apply below_drewN))⟩
end Go.Proofs.YtlhdiekibkdiaaaDoor
