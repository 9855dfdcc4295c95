/- The walks through the document's answers on lists of numbers: one number changed, which one is shorter, the same rows. -/
import Derived.Test.YtibmnifenfingaaGreatDoorRSE
import Derived.Test.YtibmnifenfingaaGreatDoorWTI
import Derived.Test.YtibmnifenfingaaGreatDoorTape
import Derived.Deep.DeepCutAuto
import Derived.BigQuiet
import Derived.Test.YtibmnifenfingaaGreatDoorREG
namespace Go.Proofs.YtibmnifenfingaaGreatDoor
set_option maxRecDepth 100000
open Go.RowKit
set_option linter.unusedSimpArgs false
set_option linter.unusedVariables false
set_option maxHeartbeats 1000000 in
theorem rwith_any (l : List Int) (lv : Value) (i : Nat) (x : Int) (w : World) (hi : i < l.length) (hl : l.length ≤ 17592186044416) (hx : In64 x) (h : IntsAt w lv l) :
    Calls Tryz.prog 68 #[lv, .int .i64 i, .int .i64 x] w fun e w' => (∃ u, e = .returned u ∧ IntsS w' (fun b => w.heap.size ≤ b) u (l.set i x)) ∧ Below w.heap.size w w' := by
  have h64 := Lib.hid h.1
  have HL := Lib.hid h
  obtain ⟨lad, lcap, rfl, _⟩ := h.form
  clear h
  obtain ⟨ln, hln⟩ : ∃ ln, ln = l.length := ⟨_, rfl⟩
  rw [← hln]
  have HL : Hid (IntsAt w (.slice lad ln lcap) l) := by show IntsAt _ _ _; rw [hln]; exact HL.out
  have HLN := Lib.hid hln
  have hi2 : i < ln := by omega
  have hl2 : ln ≤ 17592186044416 := by omega
  clear hln hi hl
  go_enter Tryz.func68, Tryz.ntmps68
  go_upto_region 2 with (at_builtin; refine append_ints (o := ⟨some 10, _, _, _, _, _⟩) rfl _ _ rfl rfl (OwnInts.lit _ w.heap.size [] (Nat.le_refl _) (by decide)) rfl (HL.out.ext ((Below.refl _ _).alloc (Nat.le_refl _) _)) (by simp only [List.length_nil]; have := HLN.out; omega) (by simp) ?_; intro u w1 hu hg1 _; have hb1 := grown_lit hg1; rw [List.nil_append] at hu; clear hg1)
  rcases hu.2 with ⟨_, h0⟩ | ⟨g, cap, cur, rfl, hg, hh, hn, hm, hcs, htake⟩
  · have := HLN.out
    omega
  have hst := World.ownsRow.stored hu i (.int .i64 x)
  have huc := (hu.at h64.out)
  have hgl : g < w1.heap.size := (Array.getElem?_eq_some_iff.1 hh).1
  have hfr : w1.frozen? ⟨g, i, none⟩ = false := Joins.unfrozen_of_block hh _
  have hcell : w1.cell? ⟨g, i, none⟩ = some (.int .i64 (l.getD i 0)) := by
    rcases huc.2 with ⟨e, _⟩ | ⟨a, c', e, _, _, hc⟩
    · cases e
    · simp only [Value.slice.injEq, Option.some.injEq] at e
      obtain ⟨rfl, _, _⟩ := e
      have := hc i (by have := HLN.out; omega)
      rw [addr_add, Nat.zero_add] at this
      exact this
  have hlen : (l.set i x).length = l.length := by simp
  have hown : OwnInts (w1.setCell ⟨g, i, none⟩ (.int .i64 x)) w.heap.size (.slice (some ⟨g, 0, none⟩) l.length cap) (l.set i x) := by
    unfold OwnInts
    rw [hlen, List.map_set]
    exact hst.1
  have HO := Lib.hid (hown.s (fun n hn => by rcases List.mem_or_eq_of_mem_set hn with h | h; exact h64.out n h; rw [h]; exact hx))
  have HB : Hid (Below w.heap.size w (w1.setCell ⟨g, i, none⟩ (.int .i64 x))) := hb1.setCell hg _
  have p1 : (0 : Int) ≤ (i : Int) := by omega
  have p2 : (i : Int) < (l.length : Int) := by have := HLN.out; omega
  have p3 : i < l.length := by have := HLN.out; omega
  unfold maxLen at hm
  clear hst huc hown hlen hh htake hcs hu hb1
  go_wp2_with fail
  go_ret
  exact ⟨⟨_, rfl, HO.out.mono (fun b hb _ => by simp [Value.ownBlock] at hb; omega)⟩, HB.out⟩
theorem less_eqlen {a b : List Int} (h : a.length = b.length) : PTape.less a b = decide (PTape.cmpL (a.drop 0) (b.drop 0) < 0) := by
  unfold PTape.less
  rw [if_pos h]; rfl
set_option maxHeartbeats 2000000 in
theorem rshorter_any (va vb : Value) (a b : List Int) (w : World) (ha : IntsAt w va a) (hb : IntsAt w vb b) : Calls Tryz.prog 69 #[va, vb] w fun e w' => e = .returned (.bool (PTape.less a b)) ∧ Below w.heap.size w w' := by
  obtain ⟨ad, ac, rfl, ha1, ha2, _, hac⟩ := ha.form
  obtain ⟨bd, bc, rfl, hb1, hb2, _, hbc⟩ := hb.form
  unfold maxLen at ha2 hb2
  obtain ⟨na, hna⟩ : ∃ n, n = a.length := ⟨_, rfl⟩
  obtain ⟨nb, hnb⟩ : ∃ n, n = b.length := ⟨_, rfl⟩
  rw [← hna, ← hnb]
  have hna2 : na ≤ 9223372036854775807 := by omega
  by_cases he : na = nb
  · have HR := Lib.hid (less_eqlen (show a.length = b.length by omega))
    have q1 : ((na : Int) != (nb : Int)) = false := by simp [he]
    have HA : Hid (0 < na → ∃ bl off, ad = some ⟨bl, off, none⟩ ∧ bl < w.heap.size ∧ ∀ i, i < na → w.cell? ⟨bl, off + i, none⟩ = some (.int .i64 (a.getD i 0))) := by rw [hna]; exact hac
    have HB : Hid (0 < na → ∃ bl off, bd = some ⟨bl, off, none⟩ ∧ bl < w.heap.size ∧ ∀ i, i < na → w.cell? ⟨bl, off + i, none⟩ = some (.int .i64 (b.getD i 0))) := by rw [he, hnb]; exact hbc
    have HN := Lib.hid hna
    have HM : Hid (na = b.length) := by show _ = _; omega
    subst he
    clear hna hnb ha hb ha1 ha2 hb1 hb2 hac hbc
    go_enter Tryz.func69, Tryz.ntmps69
    go_wp2_with fail
    go_loopw [5] (fun i wr => ∃ j k : Nat, j ≤ na ∧ i = .int .i64 j ∧ wr = w.drewN k ∧ Hid (PTape.cmpL (a.drop 0) (b.drop 0) = PTape.cmpL (a.drop j) (b.drop j))) (fun i _ => na - (intOf i).toNat)
    case atStart => exact ⟨0, 0, by omega, rfl, rfl, rfl⟩
    case round =>
      obtain ⟨j, k, hj, rfl, rfl, HE⟩ := hrel
      by_cases hlt : j < na
      · have p0 : (0 : Int) ≤ (j : Int) := by omega
        have p1 : (j : Int) < (na : Int) := by omega
        obtain ⟨b1, o1, rfl, hl1, hc1⟩ := HA.out (by omega)
        obtain ⟨b2, o2, rfl, hl2, hc2⟩ := HB.out (by omega)
        have d1 := hc1 j hlt
        have d2 := hc2 j hlt
        have ST := Lib.hid (PTape.cmp_step a b j (by have := HN.out; omega) (by have := HM.out; omega))
        generalize a.getD j 0 = x at *
        generalize b.getD j 0 = y at *
        clear hc1 hc2
        by_cases hxy : x = y
        · have HE2 : Hid (PTape.cmpL (a.drop 0) (b.drop 0) = PTape.cmpL (a.drop (j + 1)) (b.drop (j + 1))) := by
            have := HE.out.trans ST.out
            rw [if_neg (by omega), if_neg (by omega)] at this
            exact this
          have qx : (x != y) = false := by simp [hxy]
          clear hxy
          go_wp2_with fail
          go_quiet (fail)
          go_wp2_with fail
          exact ⟨⟨j + 1, k + nq, by omega, by go_num, rfl, HE2⟩, by simp [intOf]; omega⟩
        · have qx : (x != y) = true := by simp [hxy]
          have HX : Hid (PTape.less a b = decide (x < y)) := by
            show _ = _
            rw [HR.out, HE.out, ST.out]
            by_cases h : x < y
            · rw [if_pos h]; simp [h]
            · rw [if_neg h, if_pos (by omega)]; simp [h]
          clear hxy
          go_wp2_with fail
          go_quiet (fail)
          go_wp2_with fail
          go_quiet (fail)
          go_wp2_with fail
          go_ret
          exact ⟨by rw [HX.out]; rfl, by rw [World.drewN_drewN, World.drewN_drewN]; exact Joins.below_draws _ _ _⟩
      · have HX : Hid (PTape.less a b = false) := by
          show _ = _
          rw [HR.out, HE.out, List.drop_eq_nil_of_le (by have := HN.out; omega : a.length ≤ j), List.drop_eq_nil_of_le (by have := HM.out; omega : b.length ≤ j)]
          rfl
        have p1 : ¬ (j : Int) < (na : Int) := by omega
        go_wp2_with fail
        go_ret
        exact ⟨by rw [HX.out]; rfl, Joins.below_draws _ _ _⟩
  · have HR : Hid (PTape.less a b = decide (na < nb)) := by
      show _ = _
      unfold PTape.less
      rw [if_neg (by omega), hna, hnb]
    have q1 : ((na : Int) != (nb : Int)) = true := by simp; omega
    have HD : Hid (decide ((na : Int) < (nb : Int)) = decide (na < nb)) := by show _ = _; simp
    clear hna hnb ha hb ha1 ha2 hb1 hb2 hac hbc
    go_enter Tryz.func69, Tryz.ntmps69
    go_wp2_with fail
    go_ret
    exact ⟨by rw [HR.out]; simp, by repeat (first | with_reducible assumption | with_reducible exact Below.refl _ _ | with_reducible apply Below.drew | (with_reducible refine Below.alloc ?_ (by first | omega | (simp only [zA, zS, zD, zN]; omega) | (dsimp only; omega) | (simp only [zA, zS, zD, zN]; dsimp only; omega)) _) | (with_reducible refine Below.setCell ?_ (by first | omega | (simp only [zA, zS, zD, zN]; omega) | (dsimp only; omega) | (simp only [zA, zS, zD, zN]; dsimp only; omega)) _) | (with_reducible apply below_drewN))⟩
end Go.Proofs.YtibmnifenfingaaGreatDoor
