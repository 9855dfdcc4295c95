/- The walk through val.Parse: a text is read back just if it is a right value's own. -/
import Derived.Test.YtlhdiekibkdiaaaDoorRDR
import Derived.Test.YtlhdiekibkdiaaaDoorVTX
import Derived.Test.YtlhdiekibkdiaaaDoorPVC
namespace Go.Proofs.YtlhdiekibkdiaaaDoor
set_option maxRecDepth 100000
open Go.RowKit
set_option linter.unusedSimpArgs false
set_option linter.unusedVariables false
namespace VT
theorem wt_pos (t : VT) : 1 ≤ wt t := by obtain ⟨a, b, c⟩ := t; simp only [wt]; omega
theorem text_wt (t : VT) : Nums t → (text t).length + 1 ≤ 24 * wt t := by
  induction t using VT.ind with
  | h l n s ih =>
    intro hn
    have hns := (numsL_mem s).1 hn.2
    cases l with
    | false =>
      have := itoa_len n hn.1
      have e : text (.mk false n s) = Lib.itoa n := by simp [text]
      rw [e]; simp only [wt]; omega
    | true =>
      have tl : ∀ t : List VT, (∀ x ∈ t, x ∈ s) → (Lib.joinTail [32] (texts t)).length ≤ 24 * wtL t := by
        intro t
        induction t with
        | nil => intro _; simp [texts, Lib.joinTail]
        | cons x t iht =>
          intro hx
          have h1 := ih x (hx x (by simp)) (hns x (hx x (by simp)))
          have h2 := iht (fun y hy => hx y (by simp [hy]))
          simp only [texts, Lib.joinTail, List.map_cons, List.flatten_cons, List.length_append, List.length_cons, List.length_nil, wtL] at h2 ⊢
          omega
      have e : text (.mk true n s) = 40 :: (Lib.join (texts s) [32] ++ [41]) := by simp [text]
      rw [e]
      simp only [wt, List.length_cons, List.length_append, List.length_nil]
      cases s with
      | nil => simp [texts, Lib.join_nil, wtL]
      | cons x t =>
        have h1 := ih x (by simp) (hns x (by simp))
        have h2 := tl t (fun y hy => by simp [hy])
        simp only [texts, Lib.join_cons, List.length_append, wtL]
        omega
end VT
theorem wtL_append (a b : List VT) : VT.wtL (a ++ b) = VT.wtL a + VT.wtL b := by
  induction a with
  | nil => simp [VT.wtL]
  | cons x a ih => simp only [List.cons_append, VT.wtL, ih]; omega
/-- What is read weighs no more than what was taken. -/
theorem rdL_wt (f : List UInt8 → VT × Bool × List UInt8) (hf : ∀ s, (f s).2.1 = true → VT.wt (f s).1 + (f s).2.2.length ≤ s.length) : ∀ (n : Nat) (items : List VT) (s : List UInt8), (rdL f n items s).2.1 = true → VT.wtL (rdL f n items s).1 + (rdL f n items s).2.2.length ≤ VT.wtL items + s.length := by
  intro n
  induction n with
  | zero => intro items s h; simp [rdL] at h
  | succ n ih =>
    intro items s h
    have hn := nxt_le items s
    unfold rdL at h ⊢
    split at h
    · rename_i h1
      rw [if_pos h1]
      simp
    · rename_i h1
      rw [if_neg h1]
      split at h
      · cases h
      · rename_i h2
        rw [if_neg h2]
        split at h
        · rename_i h3
          rw [if_pos h3]
          have h4 := ih _ _ h
          have h5 := hf _ h3
          rw [wtL_append] at h4
          simp only [VT.wtL] at h4
          omega
        · cases h
theorem rdV_wt : ∀ d s, (rdV d s).2.1 = true → VT.wt (rdV d s).1 + (rdV d s).2.2.length ≤ s.length := by
  intro d
  induction d with
  | zero => intro s h; simp [rdV] at h
  | succ d ih =>
    intro s h
    have ht := (rdV_takes (d + 1) s).2 h
    unfold rdV at h ht ⊢
    split at h
    · rename_i hp
      rw [if_pos hp] at ht ⊢
      obtain ⟨r, rfl⟩ := (hasPrefix_one s 40).1 hp
      have := rdL_wt (rdV d) ih _ _ _ h
      simp only [VT.wtL, List.drop_succ_cons, List.drop_zero, List.length_cons, VT.wt] at this ⊢
      omega
    · rename_i hp
      rw [if_neg hp] at ht ⊢
      simp only [VT.wt, VT.wtL] at ht ⊢
      omega
/-- A text is a right value's own. -/
def IsText (s : List UInt8) (t : VT) : Prop := VT.chk t 0 = 0 ∧ VT.Nums t ∧ VT.text t = s
theorem isText_rd {s : List UInt8} {t : VT} (h : IsText s t) : rdV 7 s = (t, true, []) := by
  obtain ⟨h1, h2, rfl⟩ := h
  have := rdV_text t 0 h1 h2 [] (.inl rfl)
  rwa [List.append_nil] at this
def ParseR (w : World) (s : List UInt8) (e : Ending) (w' : World) : Prop :=
  ((∃ v t, e = .returned (.tuple #[v, .nilIface]) ∧ ValAt w' v t ∧ IsText s t) ∨ (e = .returned (.tuple #[.agg #[.bool false, .int .i64 0, .slice none 0 0], errV 3]) ∧ ∀ t, ¬ IsText s t)) ∧ Below w.heap.size w w'
set_option maxHeartbeats 4000000 in
theorem parse_any (CX : IdxAny) (s : List UInt8) (hs : s.length ≤ 1000000000) (w : World) (hP : PowAt w) (hE : NumErrsAt w) : Calls Tryd.prog 24 #[.string ⟨s.toArray⟩] w (ParseR w s) := by
  have HP := Lib.hid hP
  have HE := Lib.hid hE
  have HCX := Lib.hid CX
  clear hP hE CX
  unfold ParseR
  obtain ⟨rr, hrr⟩ : ∃ r, r = rdV 7 s := ⟨_, rfl⟩
  have HRR := Lib.hid hrr
  have hwt := rdV_wt 7 s
  rw [← hrr] at hwt
  clear hrr
  obtain ⟨t, ok, rest⟩ := rr
  dsimp only at hwt
  have HW := Lib.hid hwt
  clear hwt
  go_enter Tryd.func24, Tryd.ntmps24
  go_wp2_with fail
  have hB0 : Below w.heap.size w ((w.alloc (.cells #[.bool false, .int .i64 0, .slice none 0 0] 34)).alloc (.cells #[.string ⟨s.toArray⟩, .int .i64 0] 89)) := by repeat (first | with_reducible assumption | with_reducible exact Below.refl _ _ | with_reducible apply Below.drew | (with_reducible refine Below.alloc ?_ (by first | omega | (simp only [zA, zS, zD, zN]; omega) | (dsimp only; omega) | (simp only [zA, zS, zD, zN]; dsimp only; omega)) _) | (with_reducible refine Below.setCell ?_ (by first | omega | (simp only [zA, zS, zD, zN]; omega) | (dsimp only; omega) | (simp only [zA, zS, zD, zN]; dsimp only; omega)) _) | (with_reducible apply below_drewN))
  have V0 := (Blk.new w #[.bool false, .int .i64 0, .slice none 0 0] 34).alloc (.cells #[.string ⟨s.toArray⟩, .int .i64 0] 89)
  have Z0 : Blk ((w.alloc (.cells #[.bool false, .int .i64 0, .slice none 0 0] 34)).alloc (.cells #[.string ⟨s.toArray⟩, .int .i64 0] 89)) (w.heap.size + 1) #[.string ⟨s.toArray⟩, .int .i64 0] 89 := by simpa using Blk.new (w.alloc (.cells #[.bool false, .int .i64 0, .slice none 0 0] 34)) #[.string ⟨s.toArray⟩, .int .i64 0] 89
  generalize (w.alloc (.cells #[.bool false, .int .i64 0, .slice none 0 0] 34)).alloc (.cells #[.string ⟨s.toArray⟩, .int .i64 0] 89) = W0 at *
  have CR := reader_any HCX.out 7 s (w.heap.size + 1) W0 (Nat.le_refl _) (HE.out.ext hB0) hs Z0
  rw [← HRR.out] at CR
  refine CR.mono ?_
  clear CR
  rintro e w1 ⟨⟨xv, rfl, hxv⟩, Z1, hg⟩
  dsimp only at hxv Z1 ⊢
  have V1 : Blk w1 w.heap.size #[.bool false, .int .i64 0, .slice none 0 0] 34 := (hg.block _ V0.lt (fun e => by have := Option.some.inj e; omega)).trans V0
  have hB1 := hB0.grown hg hB0.size (fun k e => by have := Option.some.inj e; omega)
  obtain ⟨xl, xn, xk, xad, xcap, rfl⟩ := hxv.shape
  have HX := Lib.hid hxv
  have hW0 : w.heap.size + 1 < W0.heap.size := Z0.lt
  clear hxv hg V0 Z0 hB0
  have HZ1 := Lib.hid Z1
  have HV1 := Lib.hid V1
  have HB1 := Lib.hid hB1
  have hw1 : w.heap.size < w1.heap.size := V1.lt
  have hw2 : w.heap.size + 1 < w1.heap.size := Z1.lt
  have z0 := Z1.cell 0
  have z1 := Z1.cell 1
  simp only [List.getElem?_toArray, List.getElem?_cons_succ, List.getElem?_cons_zero] at z0 z1
  have v0 := V1.cell 0
  have v1 := V1.cell 1
  have v2 := V1.cell 2
  simp only [List.getElem?_toArray, List.getElem?_cons_succ, List.getElem?_cons_zero] at v0 v1 v2
  have uv0 := V1.unfrozen 0
  have uv1 := V1.unfrozen 1
  have uv2 := V1.unfrozen 2
  clear Z1 V1 hB1
  cases ok with
  | false =>
    go_wp2_with fail
    clear z0 z1 v0 v1 v2 uv0 uv1 uv2
    have VE := (((HV1.out.set 0 (.bool false)).set 1 (.int .i64 0)).set 2 (.slice none 0 0))
    simp only [List.setIfInBounds_toArray, List.set_cons_zero, List.set_cons_succ] at VE
    have VE := VE.alloc (.cells #[.bool xl, .int .i64 xn, .slice xad xk xcap] 34)
    have hBE : Below w.heap.size w (((((w1.setCell ⟨w.heap.size, 0, none⟩ (.bool false)).setCell ⟨w.heap.size, 1, none⟩ (.int .i64 0)).setCell ⟨w.heap.size, 2, none⟩ (.slice none 0 0)).alloc (.cells #[.bool xl, .int .i64 xn, .slice xad xk xcap] 34))) := by
      have hq := HB1.out.size
      refine Below.alloc (Below.setCell (Below.setCell (Below.setCell HB1.out ?_ _) ?_ _) ?_ _) ?_ _ <;> first | (simp only [size_setCell]; omega) | (dsimp only; omega)
    generalize ((((w1.setCell ⟨w.heap.size, 0, none⟩ (.bool false)).setCell ⟨w.heap.size, 1, none⟩ (.int .i64 0)).setCell ⟨w.heap.size, 2, none⟩ (.slice none 0 0)).alloc (.cells #[.bool xl, .int .i64 xn, .slice xad xk xcap] 34)) = WE at *
    have d0 := VE.cell 0
    have d1 := VE.cell 1
    have d2 := VE.cell 2
    simp only [List.getElem?_toArray, List.getElem?_cons_succ, List.getElem?_cons_zero] at d0 d1 d2
    refine bodyPost_ret (v := .tuple #[.agg #[.bool false, .int .i64 0, .slice none 0 0], .iface 27 (.int .i64 3)]) (by simp [results, Tryd.results24, go_sem, d0, d1, d2]) rfl ?_
    refine ⟨.inr ⟨by rw [errV_ne (by decide)], fun u hu => ?_⟩, hBE⟩
    have h1 := isText_rd hu
    rw [← HRR.out] at h1
    cases h1
  | true =>
    by_cases hr : rest = []
    case neg =>
      have hrl : ¬ (⟨rest.toArray⟩ : ByteArray) = ⟨#[]⟩ := fun e => hr (by have := congrArg (fun b : ByteArray => b.data.toList) e; simpa using this)
      go_wp2_with fail
      clear z0 z1 v0 v1 v2 uv0 uv1 uv2
      have VE := (((HV1.out.set 0 (.bool false)).set 1 (.int .i64 0)).set 2 (.slice none 0 0))
      simp only [List.setIfInBounds_toArray, List.set_cons_zero, List.set_cons_succ] at VE
      have VE := VE.alloc (.cells #[.bool xl, .int .i64 xn, .slice xad xk xcap] 34)
      have hBE : Below w.heap.size w (((((w1.setCell ⟨w.heap.size, 0, none⟩ (.bool false)).setCell ⟨w.heap.size, 1, none⟩ (.int .i64 0)).setCell ⟨w.heap.size, 2, none⟩ (.slice none 0 0)).alloc (.cells #[.bool xl, .int .i64 xn, .slice xad xk xcap] 34))) := by
        have hq := HB1.out.size
        refine Below.alloc (Below.setCell (Below.setCell (Below.setCell HB1.out ?_ _) ?_ _) ?_ _) ?_ _ <;> first | (simp only [size_setCell]; omega) | (dsimp only; omega)
      generalize ((((w1.setCell ⟨w.heap.size, 0, none⟩ (.bool false)).setCell ⟨w.heap.size, 1, none⟩ (.int .i64 0)).setCell ⟨w.heap.size, 2, none⟩ (.slice none 0 0)).alloc (.cells #[.bool xl, .int .i64 xn, .slice xad xk xcap] 34)) = WE at *
      have d0 := VE.cell 0
      have d1 := VE.cell 1
      have d2 := VE.cell 2
      simp only [List.getElem?_toArray, List.getElem?_cons_succ, List.getElem?_cons_zero] at d0 d1 d2
      refine bodyPost_ret (v := .tuple #[.agg #[.bool false, .int .i64 0, .slice none 0 0], .iface 27 (.int .i64 3)]) (by simp [results, Tryd.results24, go_sem, d0, d1, d2]) rfl ?_
      refine ⟨.inr ⟨by rw [errV_ne (by decide)], fun u hu => ?_⟩, hBE⟩
      have h1 := isText_rd hu
      rw [← HRR.out] at h1
      exact hr (Prod.mk.inj (Prod.mk.inj h1).2).2
    subst hr
    have hwl := HW.out rfl
    have hb2 : Below w1.heap.size w1 (w1.alloc (.cells #[.bool xl, .int .i64 xn, .slice xad xk xcap] 34)) := by repeat (first | with_reducible assumption | with_reducible exact Below.refl _ _ | with_reducible apply Below.drew | (with_reducible refine Below.alloc ?_ (by first | omega | (simp only [zA, zS, zD, zN]; omega) | (dsimp only; omega) | (simp only [zA, zS, zD, zN]; dsimp only; omega)) _) | (with_reducible refine Below.setCell ?_ (by first | omega | (simp only [zA, zS, zD, zN]; omega) | (dsimp only; omega) | (simp only [zA, zS, zD, zN]; dsimp only; omega)) _) | (with_reducible apply below_drewN))
    have HB2 := Lib.hid (HB1.out.trans (hb2.mono HB1.out.size))
    have CC := Lib.hid (valCheck_any t _ _ (HX.out.ext hb2).at)
    clear hb2
    go_wp2_with fail
    refine CC.out.mono ?_
    rintro e w2 ⟨rfl, hb2⟩
    have HB3 := Lib.hid (HB2.out.trans (hb2.mono HB2.out.size))
    have V3 := (HV1.out.alloc (.cells #[.bool xl, .int .i64 xn, .slice xad xk xcap] 34)).ext hb2
    have X3 := (Blk.new w1 #[.bool xl, .int .i64 xn, .slice xad xk xcap] 34).ext hb2
    have HX3 := Lib.hid ((HX.out.ext ((Below.refl _ _).alloc (Nat.le_refl _) (.cells #[.bool xl, .int .i64 xn, .slice xad xk xcap] 34))).ext hb2)
    have hw3 : w.heap.size < w2.heap.size := V3.lt
    have HN := Lib.hid HX.out.nums
    clear CC hb2 z0 z1 v0 v1 v2 uv0 uv1 uv2 HV1 HZ1 HX HB1 HB2
    have v0 := V3.cell 0
    have v1 := V3.cell 1
    have v2 := V3.cell 2
    simp only [List.getElem?_toArray, List.getElem?_cons_succ, List.getElem?_cons_zero] at v0 v1 v2
    have x0 := X3.cell 0
    have x1 := X3.cell 1
    have x2 := X3.cell 2
    simp only [List.getElem?_toArray, List.getElem?_cons_succ, List.getElem?_cons_zero] at x0 x1 x2
    have uv0 := V3.unfrozen 0
    have uv1 := V3.unfrozen 1
    have uv2 := V3.unfrozen 2
    by_cases hc : VT.chk t 0 = 0
    case neg =>
      rw [errV_ne hc]
      have HC := Lib.hid hc
      clear hc
      go_wp2_with fail
      clear x0 x1 x2 v0 v1 v2 uv0 uv1 uv2
      have VE := ((V3.set 0 (.bool false)).set 1 (.int .i64 0)).set 2 (.slice none 0 0)
      simp only [List.setIfInBounds_toArray, List.set_cons_zero, List.set_cons_succ] at VE
      have hBE : Below w.heap.size w (((w2.setCell ⟨w.heap.size, 0, none⟩ (.bool false)).setCell ⟨w.heap.size, 1, none⟩ (.int .i64 0)).setCell ⟨w.heap.size, 2, none⟩ (.slice none 0 0)) := by
        have hq := HB3.out.size
        refine Below.setCell (Below.setCell (Below.setCell HB3.out ?_ _) ?_ _) ?_ _ <;> dsimp only <;> omega
      generalize ((w2.setCell ⟨w.heap.size, 0, none⟩ (.bool false)).setCell ⟨w.heap.size, 1, none⟩ (.int .i64 0)).setCell ⟨w.heap.size, 2, none⟩ (.slice none 0 0) = WE at *
      have d0 := VE.cell 0
      have d1 := VE.cell 1
      have d2 := VE.cell 2
      simp only [List.getElem?_toArray, List.getElem?_cons_succ, List.getElem?_cons_zero] at d0 d1 d2
      refine bodyPost_ret (v := .tuple #[.agg #[.bool false, .int .i64 0, .slice none 0 0], .iface 27 (.int .i64 3)]) (by simp [results, Tryd.results24, go_sem, d0, d1, d2]) rfl ?_
      refine ⟨.inr ⟨by rw [errV_ne (by decide)], fun u hu => ?_⟩, hBE⟩
      have h1 := isText_rd hu
      rw [← HRR.out] at h1
      exact HC.out (by rw [(Prod.mk.inj h1).1]; exact hu.1)
    rw [hc, errV_zero]
    have HC := Lib.hid hc
    clear hc
    have CT := Lib.hid (text_any t _ w2 (HP.out.ext HB3.out) HX3.out.at (by have := VT.text_wt t HN.out; simp at hwl; omega) (by simp at hwl; omega))
    go_wp2_with fail
    refine CT.out.mono ?_
    rintro e w4 ⟨rfl, hb4⟩
    have HB4 := Lib.hid (HB3.out.trans (hb4.mono HB3.out.size))
    have V4 := V3.ext hb4
    have X4 := X3.ext hb4
    have HX4 := Lib.hid (HX3.out.ext hb4)
    have hw4 : w.heap.size < w4.heap.size := V4.lt
    have hx4 : w.heap.size < w1.heap.size := hw1
    clear CT hb4 x0 x1 x2 v0 v1 v2 uv0 uv1 uv2 V3 X3 HB3 HX3
    have v0 := V4.cell 0
    have v1 := V4.cell 1
    have v2 := V4.cell 2
    simp only [List.getElem?_toArray, List.getElem?_cons_succ, List.getElem?_cons_zero] at v0 v1 v2
    have x0 := X4.cell 0
    have x1 := X4.cell 1
    have x2 := X4.cell 2
    simp only [List.getElem?_toArray, List.getElem?_cons_succ, List.getElem?_cons_zero] at x0 x1 x2
    have uv0 := V4.unfrozen 0
    have uv1 := V4.unfrozen 1
    have uv2 := V4.unfrozen 2
    by_cases ht : VT.text t = s
    case neg =>
      have HT := Lib.hid ht
      clear ht
      generalize htx : VT.text t = tx at *
      have hne : (tx == s) = false := by have := HT.out; simpa using this
      go_wp2_with fail
      clear x0 x1 x2 v0 v1 v2 uv0 uv1 uv2
      have VE := ((V4.set 0 (.bool false)).set 1 (.int .i64 0)).set 2 (.slice none 0 0)
      simp only [List.setIfInBounds_toArray, List.set_cons_zero, List.set_cons_succ] at VE
      have hBE : Below w.heap.size w (((w4.setCell ⟨w.heap.size, 0, none⟩ (.bool false)).setCell ⟨w.heap.size, 1, none⟩ (.int .i64 0)).setCell ⟨w.heap.size, 2, none⟩ (.slice none 0 0)) := by
        have hq := HB4.out.size
        refine Below.setCell (Below.setCell (Below.setCell HB4.out ?_ _) ?_ _) ?_ _ <;> dsimp only <;> omega
      generalize ((w4.setCell ⟨w.heap.size, 0, none⟩ (.bool false)).setCell ⟨w.heap.size, 1, none⟩ (.int .i64 0)).setCell ⟨w.heap.size, 2, none⟩ (.slice none 0 0) = WE at *
      have d0 := VE.cell 0
      have d1 := VE.cell 1
      have d2 := VE.cell 2
      simp only [List.getElem?_toArray, List.getElem?_cons_succ, List.getElem?_cons_zero] at d0 d1 d2
      refine bodyPost_ret (v := .tuple #[.agg #[.bool false, .int .i64 0, .slice none 0 0], .iface 27 (.int .i64 3)]) (by simp [results, Tryd.results24, go_sem, d0, d1, d2]) rfl ?_
      refine ⟨.inr ⟨by rw [errV_ne (by decide)], fun u hu => ?_⟩, hBE⟩
      have h1 := isText_rd hu
      rw [← HRR.out] at h1
      exact HT.out (by rw [← htx, (Prod.mk.inj h1).1]; exact hu.2.2)
    rw [ht]
    have HT := Lib.hid ht
    clear ht
    go_wp2_with fail
    have VE := ((V4.set 0 (.bool xl)).set 1 (.int .i64 xn)).set 2 (.slice xad xk xcap)
    simp only [List.setIfInBounds_toArray, List.set_cons_zero, List.set_cons_succ] at VE
    have hBE : Below w.heap.size w (((w4.setCell ⟨w.heap.size, 0, none⟩ (.bool xl)).setCell ⟨w.heap.size, 1, none⟩ (.int .i64 xn)).setCell ⟨w.heap.size, 2, none⟩ (.slice xad xk xcap)) := by
      refine Below.setCell (Below.setCell (Below.setCell HB4.out ?_ _) ?_ _) ?_ _ <;> dsimp only <;> omega
    have HXE : Hid (ValAt (((w4.setCell ⟨w.heap.size, 0, none⟩ (.bool xl)).setCell ⟨w.heap.size, 1, none⟩ (.int .i64 xn)).setCell ⟨w.heap.size, 2, none⟩ (.slice xad xk xcap)) (.agg #[.bool xl, .int .i64 xn, .slice xad xk xcap]) t) := by
      refine HX4.out.keep (by simp only [size_setCell]; exact Nat.le_refl _) (fun b hb _ => ⟨trivial, ?_⟩)
      have hb' : W0.heap.size ≤ b := hb
      rw [Below.heap_setCell _ _ _ _ (by dsimp only; omega), Below.heap_setCell _ _ _ _ (by dsimp only; omega), Below.heap_setCell _ _ _ _ (by dsimp only; omega)]
    clear v0 v1 v2 x0 x1 x2 uv0 uv1 uv2 V4 X4 HX4
    generalize (((w4.setCell ⟨w.heap.size, 0, none⟩ (.bool xl)).setCell ⟨w.heap.size, 1, none⟩ (.int .i64 xn)).setCell ⟨w.heap.size, 2, none⟩ (.slice xad xk xcap)) = WE at *
    have d0 := VE.cell 0
    have d1 := VE.cell 1
    have d2 := VE.cell 2
    simp only [List.getElem?_toArray, List.getElem?_cons_succ, List.getElem?_cons_zero] at d0 d1 d2
    refine bodyPost_ret (v := .tuple #[.agg #[.bool xl, .int .i64 xn, .slice xad xk xcap], .nilIface]) (by simp [results, Tryd.results24, go_sem, d0, d1, d2]) rfl ?_
    exact ⟨.inl ⟨_, t, rfl, HXE.out, HC.out, HN.out, HT.out⟩, hBE⟩
end Go.Proofs.YtlhdiekibkdiaaaDoor
