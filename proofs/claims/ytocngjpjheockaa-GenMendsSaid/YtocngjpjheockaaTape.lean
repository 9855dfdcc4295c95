/- The walks through the order of tapes, and through the comparison of lists of numbers. -/
import Derived.Test.YtocngjpjheockaaBase
import Derived.Test.YtocngjpjheockaaProg
import Derived.Test.YtocngjpjheockaaPA
namespace Go.Proofs.Ytocngjpjheockaa
set_option maxRecDepth 100000
open Go.RowKit
set_option linter.unusedSimpArgs false
set_option linter.unusedVariables false
theorem eq_of_take {a b : List Int} (hl : a.length = b.length) (h : a.take a.length = b.take a.length) : a = b := by
  rw [List.take_of_length_le (Nat.le_refl _), hl, List.take_of_length_le (Nat.le_refl _)] at h; exact h
theorem take_succ_eq {a b : List Int} (hl : a.length = b.length) (k : Nat) (hk : k < a.length) (h : a.take k = b.take k) (e : a.getD k 0 = b.getD k 0) : a.take (k + 1) = b.take (k + 1) := by
  rw [List.take_succ_eq_append_getElem hk, List.take_succ_eq_append_getElem (by omega), h]
  simp [List.getD_eq_getElem?_getD, hk, (show k < b.length by omega)] at e
  rw [e]
set_option maxHeartbeats 1000000 in
theorem ints_any (va vb : Value) (a b : List Int) (w : World) (ha : IntsAt w va a) (hb : IntsAt w vb b) : Calls Try.prog 20 #[va, vb] w fun e w' => e = .returned (.bool (decide (a = b))) ∧ ∃ n, w' = w.drewN n := by
  obtain ⟨ad, ca, rfl, hla, hma, hia, hca⟩ := ha.form
  obtain ⟨bd, cb, rfl, hlb, hmb, hib, hcb⟩ := hb.form
  unfold maxLen at hma hmb
  clear ha hb hia hib
  by_cases hl : a.length = b.length
  · have e1 : ((a.length : Int) != (b.length : Int)) = false := by simp; omega
    have HL := Lib.hid hl
    clear hl
    go_enter Try.func20, Try.ntmps20
    go_wp2
    go_loopw [5] (fun i wr => ∃ k n : Nat, k ≤ a.length ∧ i = .int .i64 k ∧ wr = w.drewN n ∧ Hid (a.take k = b.take k)) (fun i _ => a.length - (intOf i).toNat)
    case atStart => exact ⟨0, 0, by omega, rfl, rfl, rfl⟩
    case round =>
      obtain ⟨k, n, hk, rfl, rfl, HT⟩ := hrel
      by_cases hlt : k < a.length
      · have hltb : k < b.length := by have := HL.out; omega
        obtain ⟨ba, oa, rfl, _, hca'⟩ := hca (by omega)
        obtain ⟨bb, ob, rfl, _, hcb'⟩ := hcb (by omega)
        have ga := hca' k hlt
        have gb := hcb' k hltb
        clear hca hcb hca' hcb'
        have p0 : (0 : Int) ≤ (k : Int) := by omega
        have p1 : (k : Int) < (a.length : Int) := by omega
        have p2 : (k : Int) < (b.length : Int) := by omega
        have TS := Lib.hid (take_succ_eq HL.out k hlt HT.out)
        have TN : Hid (a.getD k 0 ≠ b.getD k 0 → a ≠ b) := fun h e => h (by rw [e])
        generalize a.getD k 0 = x at *
        generalize b.getD k 0 = y at *
        by_cases hx : x = y
        · have e2 : (x != y) = false := by simp [hx]
          have HX := Lib.hid hx
          clear hx
          go_wp2_with fail
          go_quiet (fail)
          go_wp2_with fail
          exact ⟨⟨k + 1, n + nq, by omega, by go_num, rfl, TS.out HX.out⟩, by simp [intOf]; omega⟩
        · have e2 : (x != y) = true := by simp [hx]
          have HX := Lib.hid hx
          clear hx
          go_wp2_with fail
          go_quiet (fail)
          go_wp2_with fail
          go_ret
          exact ⟨by rw [decide_eq_false (TN.out HX.out)]; rfl, n + nq, by rw [World.drewN_drewN]⟩
      · go_wp2_with fail
        go_ret
        have hk' : k = a.length := by omega
        have HT' := HT.out
        rw [hk'] at HT'
        exact ⟨by rw [decide_eq_true (eq_of_take HL.out HT')]; rfl, n, rfl⟩
  · have e1 : ((a.length : Int) != (b.length : Int)) = true := by simp; omega
    have hne : decide (a = b) = false := decide_eq_false fun e => hl (by rw [e])
    rw [hne]
    clear hl
    go_enter Try.func20, Try.ntmps20
    go_wp2
    go_ret
    exact ⟨rfl, 0, rfl⟩
theorem isNaN_any (x : Int) (w : World) : Calls Try.prog 55 #[.int .i64 x] w fun e w' => e = .returned (.bool false) ∧ w = w' := by
  go_enter Try.func55, Try.ntmps55
  go_wp2
  go_ret
  exact ⟨by simp, rfl⟩
theorem cmp_lt (x y : Int) (h : x < y) (w : World) : Calls Try.prog 49 #[.int .i64 x, .int .i64 y] w fun e w' => e = .returned (.int .i64 (-1)) ∧ w = w' := by
  go_enter Try.func49, Try.ntmps49
  go_wp2_with (go_at_call 55; refine (isNaN_any _ _).mono ?_; rintro e w' ⟨rfl, rfl⟩)
  go_ret
  exact ⟨rfl, rfl⟩
theorem cmp_gt (x y : Int) (h : y < x) (w : World) : Calls Try.prog 49 #[.int .i64 x, .int .i64 y] w fun e w' => e = .returned (.int .i64 1) ∧ w = w' := by
  have h2 : ¬ x < y := by omega
  go_enter Try.func49, Try.ntmps49
  go_wp2_with (go_at_call 55; refine (isNaN_any _ _).mono ?_; rintro e w' ⟨rfl, rfl⟩)
  go_ret
  exact ⟨rfl, rfl⟩
theorem cmp_same (x : Int) (w : World) : Calls Try.prog 49 #[.int .i64 x, .int .i64 x] w fun e w' => e = .returned (.int .i64 0) ∧ w = w' := by
  have h2 : ¬ x < x := by omega
  go_enter Try.func49, Try.ntmps49
  go_wp2_with (go_at_call 55; refine (isNaN_any _ _).mono ?_; rintro e w' ⟨rfl, rfl⟩)
  go_ret
  exact ⟨rfl, rfl⟩
set_option maxHeartbeats 1000000 in
theorem compare_any (va vb : Value) (a b : List Int) (w : World) (ha : IntsAt w va a) (hb : IntsAt w vb b) : Calls Try.prog 33 #[va, vb] w fun e w' => e = .returned (.int .i64 (PTape.cmpL a b)) ∧ ∃ n, w' = w.drewN n := by
  obtain ⟨ad, ca, rfl, hla, hma, hia, hca⟩ := ha.form
  obtain ⟨bd, cb, rfl, hlb, hmb, hib, hcb⟩ := hb.form
  unfold maxLen at hma hmb
  clear ha hb hia hib
  go_enter Try.func33, Try.ntmps33
  go_wp2_with fail
  go_loopw [11] (fun i wr => ∃ k n : Nat, k ≤ a.length ∧ k ≤ b.length ∧ i = .int .i64 k ∧ wr = w.drewN n ∧ Hid (PTape.cmpL a b = PTape.cmpL (a.drop k) (b.drop k))) (fun i _ => a.length - (intOf i).toNat)
  case atStart => exact ⟨0, 0, by omega, by omega, rfl, rfl, rfl⟩
  case round =>
    obtain ⟨k, n, hk, hkb, rfl, rfl, HT⟩ := hrel
    by_cases hlt : k < a.length
    · obtain ⟨ba, oa, rfl, _, hca'⟩ := hca (by omega)
      have ga := hca' k hlt
      have p0 : (0 : Int) ≤ (k : Int) := by omega
      have p1 : (k : Int) < (a.length : Int) := by omega
      by_cases hltb : k < b.length
      · obtain ⟨bb, ob, rfl, _, hcb'⟩ := hcb (by omega)
        have gb := hcb' k hltb
        have p2 : (k : Int) < (b.length : Int) := by omega
        have ST := Lib.hid (PTape.cmp_step a b k hlt hltb)
        clear hca hcb hca' hcb'
        generalize a.getD k 0 = x at *
        generalize b.getD k 0 = y at *
        by_cases h1 : x < y
        · go_wp2_with (go_at_call 49; refine (cmp_lt _ _ h1 _).mono ?_; rintro e w' ⟨rfl, rfl⟩)
          go_ret
          exact ⟨by rw [HT.out, ST.out, if_pos h1]; rfl, _, rfl⟩
        · by_cases h2 : y < x
          · go_wp2_with (go_at_call 49; refine (cmp_gt _ _ h2 _).mono ?_; rintro e w' ⟨rfl, rfl⟩)
            go_ret
            exact ⟨by rw [HT.out, ST.out, if_neg (by omega), if_pos (by omega)]; rfl, _, rfl⟩
          · obtain rfl : x = y := by omega
            go_wp2_with (go_at_call 49; refine (cmp_same _ _).mono ?_; rintro e w' ⟨rfl, rfl⟩)
            exact ⟨⟨k + 1, n, by omega, by omega, by go_num, rfl, by rw [HT.out, ST.out, if_neg (by omega), if_neg (by omega)]; rfl⟩, by simp [intOf]; omega⟩
      · have hb2 : (b.length : Int) ≤ (k : Int) := by omega
        clear hca hcb hca'
        generalize a.getD k 0 = x at *
        go_wp2_with fail
        go_ret
        exact ⟨by rw [HT.out, PTape.cmp_end1 a b k hlt (by omega)]; rfl, _, rfl⟩
    · have hka : k = a.length := by omega
      by_cases hltb : k < b.length
      · have p3 : (a.length : Int) < (b.length : Int) := by omega
        clear hka
        go_wp2_with fail
        go_ret
        exact ⟨by rw [HT.out, PTape.cmp_end2 a b k (by omega) hltb]; rfl, _, rfl⟩
      · have p3 : ¬ (a.length : Int) < (b.length : Int) := by omega
        clear hka
        go_wp2_with fail
        go_ret
        exact ⟨by rw [HT.out, PTape.cmp_end3 a b k (by omega) (by omega)]; rfl, _, rfl⟩
set_option maxHeartbeats 1000000 in
theorem less_any (va vb : Value) (a b : List Int) (w : World) (ha : IntsAt w va a) (hb : IntsAt w vb b) : Calls Try.prog 19 #[va, vb] w fun e w' => e = .returned (.bool (PTape.less a b)) ∧ ∃ n, w' = w.drewN n := by
  have C := Lib.hid (fun w' => compare_any va vb a b w')
  have HA := Lib.hid ha
  have HB := Lib.hid hb
  obtain ⟨ad, ca, rfl, hla, hma, hia, hca⟩ := ha.form
  obtain ⟨bd, cb, rfl, hlb, hmb, hib, hcb⟩ := hb.form
  clear ha hb hia hib hca hcb hma hmb
  by_cases hl : a.length = b.length
  · have e1 : ((a.length : Int) != (b.length : Int)) = false := by simp; omega
    have HP : Hid (PTape.less a b = decide (PTape.cmpL a b < 0)) := by unfold PTape.less; rw [if_pos hl]; rfl
    clear hl
    go_enter Try.func19, Try.ntmps19
    go_wp2_with fail
    refine (C.out _ HA.out HB.out).mono ?_
    rintro e w' ⟨rfl, n, rfl⟩
    go_wp2_with fail
    all_goals (go_ret; exact ⟨by rw [HP.out]; rfl, n, rfl⟩)
  · have e1 : ((a.length : Int) != (b.length : Int)) = true := by simp; omega
    have HP : Hid (PTape.less a b = decide (a.length < b.length)) := by unfold PTape.less; rw [if_neg hl]; rfl
    clear hl
    go_enter Try.func19, Try.ntmps19
    go_wp2_with fail
    all_goals (go_ret; exact ⟨by rw [HP.out]; simp, 0, rfl⟩)
end Go.Proofs.Ytocngjpjheockaa
