/- The walks through tape.Check and through the reference's TapeFault. -/
import Derived.Test.YtlhdiekibkdiaaaDoorPTP
import Derived.Test.YtlhdiekibkdiaaaDoorRDG
import Derived.Test.YtlhdiekibkdiaaaDoorProg
namespace Go.Proofs.YtlhdiekibkdiaaaDoor
set_option maxRecDepth 100000
open Go.RowKit
set_option linter.unusedSimpArgs false
set_option linter.unusedVariables false
def tapeBad (l : List Int) : Bool := l.any fun n => decide (n < 0) || decide (1000 < n)
theorem tapeBad_false {l : List Int} : tapeBad l = false ↔ TapeOk l := by
  unfold tapeBad TapeOk
  rw [List.any_eq_false]
  constructor
  · intro h n hn; have := h n hn; simp at this; omega
  · intro h n hn; have := h n hn; simp; omega
theorem tapeBad_at {l : List Int} (j : Nat) (h : j < l.length) (hx : l.getD j 0 < 0 ∨ 1000 < l.getD j 0) : tapeBad l = true := by
  unfold tapeBad
  rw [List.any_eq_true]
  refine ⟨l[j], List.getElem_mem h, ?_⟩
  rw [List.getD_eq_getElem?_getD, List.getElem?_eq_getElem h] at hx
  simpa using hx
theorem tapeBad_take {l : List Int} (j : Nat) (h : j < l.length) (hb : tapeBad (l.take j) = false) (h0 : ¬ l.getD j 0 < 0) (h1 : ¬ 1000 < l.getD j 0) : tapeBad (l.take (j + 1)) = false := by
  rw [List.take_succ_eq_append_getElem h]
  unfold tapeBad at hb ⊢
  rw [List.any_append, hb]
  rw [List.getD_eq_getElem?_getD, List.getElem?_eq_getElem h] at h0 h1
  simp at h0 h1 ⊢
  omega
def tapeErr (l : List Int) : Int := if tapeBad l = true then 1 else 0
theorem tapeErr_bad {l : List Int} (h : tapeBad l = true) : errV (tapeErr l) = .iface 27 (.int .i64 1) := by
  unfold tapeErr
  rw [if_pos h, errV_ne (by decide)]
theorem tapeErr_ok {l : List Int} (h : tapeBad l = false) : errV (tapeErr l) = .nilIface := by
  unfold tapeErr
  rw [if_neg (by rw [h]; decide), errV_zero]
set_option maxHeartbeats 2000000 in
theorem tcheck_same (v : Value) (l : List Int) (w : World) (h : IntsAt w v l) : Calls Tryd.prog 19 #[v] w fun e w' => e = .returned (errV (tapeErr l)) ∧ w' = w := by
  obtain ⟨ad, cap, rfl, hl, hm, _, hc⟩ := h.form
  unfold maxLen at hm
  obtain ⟨n, hn⟩ : ∃ n, n = l.length := ⟨_, rfl⟩
  have HN := Lib.hid hn
  rw [← hn] at hl hc ⊢
  clear h hn
  go_enter Tryd.func19, Tryd.ntmps19
  go_wp2_with fail
  go_loopw [7] (fun i wr => ∃ j : Nat, j ≤ n ∧ i = .int .i64 j ∧ wr = w ∧ Hid (tapeBad (l.take j) = false)) (fun i _ => n - (intOf i).toNat)
  case atStart => exact ⟨0, by omega, rfl, rfl, rfl⟩
  case round =>
    obtain ⟨j, hj, rfl, rfl, HB⟩ := hrel
    by_cases hlt : j < n
    · obtain ⟨b, off, rfl, _, hc'⟩ := hc (by omega)
      have ga := hc' j hlt
      clear hc hc'
      have p0 : (0 : Int) ≤ (j : Int) := by omega
      have p1 : (j : Int) < (n : Int) := by omega
      have hjl : j < l.length := by rw [← HN.out]; exact hlt
      have T1 := Lib.hid (tapeBad_at j hjl)
      have T2 := Lib.hid (tapeBad_take j hjl HB.out)
      generalize l.getD j 0 = x at *
      by_cases h0 : x < 0
      · have HR := T1.out (.inl h0)
        have HR := Lib.hid HR
        clear HB T1 T2
        go_wp2_with fail
        go_ret
        exact ⟨by rw [tapeErr_bad HR.out]; rfl, rfl⟩
      · by_cases h1 : 1000 < x
        · have HR := T1.out (.inr h1)
          have HR := Lib.hid HR
          clear HB T1 T2
          go_wp2_with fail
          go_ret
          exact ⟨by rw [tapeErr_bad HR.out]; rfl, rfl⟩
        · have HB2 := Lib.hid (T2.out h0 h1)
          clear HB T1 T2
          go_wp2_with fail
          exact ⟨⟨j + 1, by omega, by go_num, by trivial, HB2⟩, by simp [intOf]; omega⟩
    · have hj' : j = n := by omega
      have hb := HB.out
      rw [hj', HN.out, List.take_length] at hb
      have HR := Lib.hid hb
      clear hb HB
      go_wp2_with fail
      go_ret
      exact ⟨by rw [tapeErr_ok HR.out]; rfl, rfl⟩
theorem tcheck_any (v : Value) (l : List Int) (w : World) (h : IntsAt w v l) : Calls Tryd.prog 19 #[v] w fun e w' => e = .returned (errV (tapeErr l)) ∧ Below w.heap.size w w' :=
  (tcheck_same v l w h).mono fun e w' ⟨he, hw⟩ => ⟨he, hw ▸ Below.refl _ _⟩
set_option maxHeartbeats 2000000 in
theorem rtfault_any (v : Value) (l : List Int) (w : World) (h : IntsAt w v l) : Calls Tryd.prog 29 #[v] w fun e w' => e = .returned (.bool (tapeBad l)) ∧ Below w.heap.size w w' := by
  obtain ⟨ad, cap, rfl, hl, hm, _, hc⟩ := h.form
  unfold maxLen at hm
  obtain ⟨n, hn⟩ : ∃ n, n = l.length := ⟨_, rfl⟩
  have HN := Lib.hid hn
  rw [← hn] at hl hc ⊢
  clear h hn
  go_enter Tryd.func29, Tryd.ntmps29
  go_wp2_with fail
  go_loopw [3] (fun i wr => ∃ j : Nat, j ≤ n ∧ i = .int .i64 j ∧ wr = w ∧ Hid (tapeBad (l.take j) = false)) (fun i _ => n - (intOf i).toNat)
  case atStart => exact ⟨0, by omega, rfl, rfl, rfl⟩
  case round =>
    obtain ⟨j, hj, rfl, rfl, HB⟩ := hrel
    by_cases hlt : j < n
    · obtain ⟨b, off, rfl, _, hc'⟩ := hc (by omega)
      have ga := hc' j hlt
      clear hc hc'
      have p0 : (0 : Int) ≤ (j : Int) := by omega
      have p1 : (j : Int) < (n : Int) := by omega
      have hjl : j < l.length := by rw [← HN.out]; exact hlt
      have T1 := Lib.hid (tapeBad_at j hjl)
      have T2 := Lib.hid (tapeBad_take j hjl HB.out)
      generalize l.getD j 0 = x at *
      by_cases h0 : x < 0
      · have HR := T1.out (.inl h0)
        have HR := Lib.hid HR
        clear HB T1 T2
        go_wp2_with fail
        go_ret
        exact ⟨by first | rfl | (rw [HR.out]; rfl), Below.refl _ _⟩
      · by_cases h1 : 1000 < x
        · have HR := T1.out (.inr h1)
          have HR := Lib.hid HR
          clear HB T1 T2
          go_wp2_with fail
          go_ret
          exact ⟨by first | rfl | (rw [HR.out]; rfl), Below.refl _ _⟩
        · have HB2 := Lib.hid (T2.out h0 h1)
          clear HB T1 T2
          go_wp2_with fail
          exact ⟨⟨j + 1, by omega, by go_num, by trivial, HB2⟩, by simp [intOf]; omega⟩
    · have hj' : j = n := by omega
      have hb := HB.out
      rw [hj', HN.out, List.take_length] at hb
      have HR := Lib.hid hb
      clear hb HB
      go_wp2_with fail
      go_ret
      exact ⟨by first | rfl | (rw [HR.out]; rfl), Below.refl _ _⟩
end Go.Proofs.YtlhdiekibkdiaaaDoor
