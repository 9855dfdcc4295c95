/- The walks through the reference's reader of values, whole: a text is a value just if it is a right one's own. -/
import Derived.Test.YtlhdiekibkdiaaaDoorRVB
import Derived.Test.YtlhdiekibkdiaaaDoorPRS
namespace Go.Proofs.YtlhdiekibkdiaaaDoor
set_option maxRecDepth 100000
open Go.RowKit
set_option linter.unusedSimpArgs false
set_option linter.unusedVariables false
theorem rvat_any (s : List UInt8) (hs : s.length ≤ 1000000000) : ∀ (d : Nat) (a : Nat) (w : World), d ≤ 6 → a ≤ s.length → Calls Tryd.prog 49 #[.string ⟨s.toArray⟩, .int .i64 a, .int .i64 d] w (AtR w s (rvA d (s.drop a))) := by
  intro d
  induction d with
  | zero => intro a w _ ha; exact rvat_zero s a hs ha w
  | succ d ih =>
    intro a w hd ha
    cases hda : s.drop a with
    | nil =>
      have hae : a = s.length := by have := congrArg List.length hda; simp at this; omega
      subst hae
      exact rvat_end s (d + 1) (by omega) hd hs w
    | cons c r =>
      by_cases h40 : c = 40
      · subst h40
        rw [rvA_list]
        exact rvat_list s a r hda d hd hs w _ (Lib.hid rfl) (Lib.hid fun a w ha => ih a w (by omega) ha)
      · refine rvat_num s a c r hda h40 (d + 1) (by omega) hd hs w _ _ _ (Lib.hid rfl) (Lib.hid rfl) ?_
        show _ = _
        rw [hda, rvA, if_neg h40]
        cases numS (List.take (stopN (c :: r)) (c :: r)) <;> rfl
/-- What ValueOf tells. -/
def OfR (w : World) (s : List UInt8) (e : Ending) (w' : World) : Prop :=
  ((∃ v t, e = .returned (.tuple #[v, .bool true]) ∧ ValAt w' v t ∧ IsText s t) ∨ (e = .returned (.tuple #[.agg #[.bool false, .int .i64 0, .slice none 0 0], .bool false]) ∧ ∀ t, ¬ IsText s t)) ∧ Below w.heap.size w w'
theorem isText_rv {s : List UInt8} {t : VT} (h : IsText s t) : rvA 6 s = some (t, []) := by
  obtain ⟨h1, h2, rfl⟩ := h
  have := rvA_text t 0 h1 h2 [] (.inl rfl)
  rwa [List.append_nil] at this
theorem rv_isText {s : List UInt8} {t : VT} (h : rvA 6 s = some (t, [])) : IsText s t := by
  obtain ⟨h1, h2, h3⟩ := rvA_sound 6 (Nat.le_refl _) _ _ h
  exact ⟨h2, h3, by simpa using h1.symm⟩
set_option maxHeartbeats 4000000 in
theorem rvof_any (s : List UInt8) (hs : s.length ≤ 1000000000) (w : World) : Calls Tryd.prog 23 #[.string ⟨s.toArray⟩] w (OfR w s) := by
  have hw0 : w.heap.size < (w.alloc (.cells #[.bool false, .int .i64 0, .slice none 0 0] 34)).heap.size := by simp
  have CA := Lib.hid (fun W => rvat_any s hs 6 0 W (Nat.le_refl _) (Nat.zero_le _))
  have X0 := Blk.new w #[.bool false, .int .i64 0, .slice none 0 0] 34
  have hB0 : Below w.heap.size w (w.alloc (.cells #[.bool false, .int .i64 0, .slice none 0 0] 34)) := by repeat (first | with_reducible assumption | with_reducible exact Below.refl _ _ | with_reducible apply Below.drew | (with_reducible refine Below.alloc ?_ (by first | omega | (simp only [zA, zS, zD, zN]; omega) | (dsimp only; omega) | (simp only [zA, zS, zD, zN]; dsimp only; omega)) _) | (with_reducible refine Below.setCell ?_ (by first | omega | (simp only [zA, zS, zD, zN]; omega) | (dsimp only; omega) | (simp only [zA, zS, zD, zN]; dsimp only; omega)) _) | (with_reducible apply below_drewN))
  go_enter Tryd.func23, Tryd.ntmps23
  go_wp2_with fail
  generalize w.alloc (.cells #[.bool false, .int .i64 0, .slice none 0 0] 34) = W0 at *
  refine (CA.out W0).mono ?_
  rintro e w1 ⟨hres, hb⟩
  have X1 := X0.ext hb
  have hB1 := hB0.trans (hb.mono hB0.size)
  rw [List.drop_zero] at hres
  obtain ⟨rr, hrr⟩ : ∃ rr, rr = rvA 6 s := ⟨_, rfl⟩
  have HRR := Lib.hid hrr
  rw [← hrr] at hres
  clear hb X0 hB0 hrr CA
  cases rr with
  | none =>
    dsimp only at hres
    subst hres
    have HN : Hid (∀ t, ¬ IsText s t) := fun t ht => by have := HRR.out; rw [isText_rv ht] at this; cases this
    have p0 : ((-1 : Int) != (s.length : Int)) = true := by simp <;> omega
    have XK := X1.alloc (.cells #[.bool false, .int .i64 0, .slice none 0 0] 34)
    have hBK : Below w.heap.size w (w1.alloc (.cells #[.bool false, .int .i64 0, .slice none 0 0] 34)) := hB1.alloc hB1.size _
    have x0 := XK.cell 0
    have x1 := XK.cell 1
    have x2 := XK.cell 2
    simp only [List.getElem?_toArray, List.getElem?_cons_succ, List.getElem?_cons_zero] at x0 x1 x2
    have ux0 := XK.unfrozen 0
    have ux1 := XK.unfrozen 1
    have ux2 := XK.unfrozen 2
    go_wp2_with fail
    clear x0 x1 x2 ux0 ux1 ux2
    generalize w1.alloc (.cells #[.bool false, .int .i64 0, .slice none 0 0] 34) = WK at *
    have XZ := ((XK.set 0 (.bool false)).set 1 (.int .i64 0)).set 2 (.slice none 0 0)
    simp only [List.setIfInBounds_toArray, List.set_cons_zero, List.set_cons_succ] at XZ
    have hBZ : Below w.heap.size w (((WK.setCell ⟨w.heap.size, 0, none⟩ (.bool false)).setCell ⟨w.heap.size, 1, none⟩ (.int .i64 0)).setCell ⟨w.heap.size, 2, none⟩ (.slice none 0 0)) := Below.setCell (Below.setCell (Below.setCell hBK (Nat.le_refl _) _) (Nat.le_refl _) _) (Nat.le_refl _) _
    have d0 := XZ.cell 0
    have d1 := XZ.cell 1
    have d2 := XZ.cell 2
    simp only [List.getElem?_toArray, List.getElem?_cons_succ, List.getElem?_cons_zero] at d0 d1 d2
    refine bodyPost_ret (v := .tuple #[.agg #[.bool false, .int .i64 0, .slice none 0 0], .bool false]) (by simp [results, Tryd.results23, go_sem, d0, d1, d2]) rfl ?_
    exact ⟨.inr ⟨rfl, HN.out⟩, hBZ⟩
  | some rr =>
    obtain ⟨t, rest⟩ := rr
    dsimp only at hres
    obtain ⟨v, p, rfl, hv, hp, hdp⟩ := hres
    obtain ⟨xl, xn, xk, xad, xcap, rfl⟩ := hv.shape
    have hb2 : Below w1.heap.size w1 (w1.alloc (.cells #[.bool xl, .int .i64 xn, .slice xad xk xcap] 34)) := by repeat (first | with_reducible assumption | with_reducible exact Below.refl _ _ | with_reducible apply Below.drew | (with_reducible refine Below.alloc ?_ (by first | omega | (simp only [zA, zS, zD, zN]; omega) | (dsimp only; omega) | (simp only [zA, zS, zD, zN]; dsimp only; omega)) _) | (with_reducible refine Below.setCell ?_ (by first | omega | (simp only [zA, zS, zD, zN]; omega) | (dsimp only; omega) | (simp only [zA, zS, zD, zN]; dsimp only; omega)) _) | (with_reducible apply below_drewN))
    have HV := Lib.hid (hv.ext hb2)
    have XK := X1.alloc (.cells #[.bool xl, .int .i64 xn, .slice xad xk xcap] 34)
    have YK := Blk.new w1 #[.bool xl, .int .i64 xn, .slice xad xk xcap] 34
    have hBK : Below w.heap.size w (w1.alloc (.cells #[.bool xl, .int .i64 xn, .slice xad xk xcap] 34)) := hB1.alloc hB1.size _
    have HDP := Lib.hid hdp
    clear hb2 hv hdp
    by_cases hpe : p = s.length
    · subst hpe
      have hrest : rest = [] := by rw [← HDP.out]; simp
      subst hrest
      have HT := Lib.hid (rv_isText HRR.out.symm)
      have x0 := XK.cell 0
      have x1 := XK.cell 1
      have x2 := XK.cell 2
      simp only [List.getElem?_toArray, List.getElem?_cons_succ, List.getElem?_cons_zero] at x0 x1 x2
      have y0 := YK.cell 0
      have y1 := YK.cell 1
      have y2 := YK.cell 2
      simp only [List.getElem?_toArray, List.getElem?_cons_succ, List.getElem?_cons_zero] at y0 y1 y2
      have ux0 := XK.unfrozen 0
      have ux1 := XK.unfrozen 1
      have ux2 := XK.unfrozen 2
      go_wp2_with fail
      clear x0 x1 x2 ux0 ux1 ux2 y0 y1 y2
      generalize w1.alloc (.cells #[.bool xl, .int .i64 xn, .slice xad xk xcap] 34) = WK at *
      have XZ := ((XK.set 0 (.bool xl)).set 1 (.int .i64 xn)).set 2 (.slice xad xk xcap)
      simp only [List.setIfInBounds_toArray, List.set_cons_zero, List.set_cons_succ] at XZ
      have hBZ : Below w.heap.size w (((WK.setCell ⟨w.heap.size, 0, none⟩ (.bool xl)).setCell ⟨w.heap.size, 1, none⟩ (.int .i64 xn)).setCell ⟨w.heap.size, 2, none⟩ (.slice xad xk xcap)) := Below.setCell (Below.setCell (Below.setCell hBK (Nat.le_refl _) _) (Nat.le_refl _) _) (Nat.le_refl _) _
      have HVZ := HV.out.keep (S' := fun _ => True) (w' := ((WK.setCell ⟨w.heap.size, 0, none⟩ (.bool xl)).setCell ⟨w.heap.size, 1, none⟩ (.int .i64 xn)).setCell ⟨w.heap.size, 2, none⟩ (.slice xad xk xcap)) (by simp only [size_setCell]; exact Nat.le_refl _) (fun b hb _ => ⟨trivial, by
        rw [Below.heap_setCell _ _ _ _ (by dsimp only; omega), Below.heap_setCell _ _ _ _ (by dsimp only; omega), Below.heap_setCell _ _ _ _ (by dsimp only; omega)]⟩)
      have d0 := XZ.cell 0
      have d1 := XZ.cell 1
      have d2 := XZ.cell 2
      simp only [List.getElem?_toArray, List.getElem?_cons_succ, List.getElem?_cons_zero] at d0 d1 d2
      refine bodyPost_ret (v := .tuple #[.agg #[.bool xl, .int .i64 xn, .slice xad xk xcap], .bool true]) (by simp [results, Tryd.results23, go_sem, d0, d1, d2]) rfl ?_
      exact ⟨.inl ⟨_, t, rfl, HVZ, HT.out⟩, hBZ⟩
    · have HN : Hid (∀ t, ¬ IsText s t) := fun u hu => by
        have := HRR.out
        rw [isText_rv hu] at this
        have h1 := (Prod.mk.inj (Option.some.inj this)).2
        have := HDP.out
        rw [h1] at this
        have := congrArg List.length this
        simp at this
        omega
      have p0 : ((p : Int) != (s.length : Int)) = true := by simp <;> omega
      have x0 := XK.cell 0
      have x1 := XK.cell 1
      have x2 := XK.cell 2
      simp only [List.getElem?_toArray, List.getElem?_cons_succ, List.getElem?_cons_zero] at x0 x1 x2
      have ux0 := XK.unfrozen 0
      have ux1 := XK.unfrozen 1
      have ux2 := XK.unfrozen 2
      go_wp2_with fail
      clear x0 x1 x2 ux0 ux1 ux2
      generalize w1.alloc (.cells #[.bool xl, .int .i64 xn, .slice xad xk xcap] 34) = WK at *
      have XZ := ((XK.set 0 (.bool false)).set 1 (.int .i64 0)).set 2 (.slice none 0 0)
      simp only [List.setIfInBounds_toArray, List.set_cons_zero, List.set_cons_succ] at XZ
      have hBZ : Below w.heap.size w (((WK.setCell ⟨w.heap.size, 0, none⟩ (.bool false)).setCell ⟨w.heap.size, 1, none⟩ (.int .i64 0)).setCell ⟨w.heap.size, 2, none⟩ (.slice none 0 0)) := Below.setCell (Below.setCell (Below.setCell hBK (Nat.le_refl _) _) (Nat.le_refl _) _) (Nat.le_refl _) _
      have d0 := XZ.cell 0
      have d1 := XZ.cell 1
      have d2 := XZ.cell 2
      simp only [List.getElem?_toArray, List.getElem?_cons_succ, List.getElem?_cons_zero] at d0 d1 d2
      refine bodyPost_ret (v := .tuple #[.agg #[.bool false, .int .i64 0, .slice none 0 0], .bool false]) (by simp [results, Tryd.results23, go_sem, d0, d1, d2]) rfl ?_
      exact ⟨.inr ⟨rfl, HN.out⟩, hBZ⟩
end Go.Proofs.YtlhdiekibkdiaaaDoor
