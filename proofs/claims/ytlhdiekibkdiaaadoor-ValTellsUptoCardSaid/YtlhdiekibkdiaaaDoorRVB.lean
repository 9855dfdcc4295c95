/- The walk through the reference's reader of values: a list. -/
import Derived.Test.YtlhdiekibkdiaaaDoorRVA
namespace Go.Proofs.YtlhdiekibkdiaaaDoor
set_option maxRecDepth 100000
open Go.RowKit
set_option linter.unusedSimpArgs false
set_option linter.unusedVariables false
def listO (x : Option (List VT × List UInt8)) : Option (VT × List UInt8) := match x with | none => none | some x => some (.mk true 0 x.1, x.2)
theorem rvA_list (d : Nat) (r : List UInt8) : rvA (d + 1) (40 :: r) = listO (rvL (rvA d) (r.length + 1) [] r) := by
  rw [rvA, if_pos rfl]; rfl
/-- Where the list's loop stands. -/
structure VaI (s : List UInt8) (d : Nat) (w : World) (o : Option (VT × List UInt8)) (n : Nat) (items : List VT) (p : Nat) (iv : Value) (cs : List Value) (S : Nat → Prop) (wr : World) : Prop where
  eq : o = listO (rvL (rvA d) n items (s.drop p))
  fuel : (s.drop p).length < n
  hp : p ≤ s.length
  len : items.length ≤ p
  r : Blk wr w.heap.size #[.bool false, .int .i64 0, .slice none 0 0] 34
  v : Blk wr (w.heap.size + 1) #[.bool true, .int .i64 0, iv] 34
  it : Items wr (w.heap.size + 2) S iv cs items
  hS : ∀ b, S b → w.heap.size + 2 ≤ b ∧ b < wr.heap.size
  b : Below w.heap.size w wr
set_option maxHeartbeats 8000000 in
theorem rvat_list (s : List UInt8) (a : Nat) (r : List UInt8) (hd : s.drop a = 40 :: r) (d : Nat) (hg6 : d + 1 ≤ 6) (hs : s.length ≤ 1000000000) (w : World) (o : Option (VT × List UInt8)) (HO : Hid (o = listO (rvL (rvA d) (r.length + 1) [] r)))
    (IH : Hid (∀ (a : Nat) (w : World), a ≤ s.length → Calls Tryd.prog 49 #[.string ⟨s.toArray⟩, .int .i64 a, .int .i64 d] w (AtR w s (rvA d (s.drop a))))) :
    Calls Tryd.prog 49 #[.string ⟨s.toArray⟩, .int .i64 a, .int .i64 ((d : Int) + 1)] w (AtR w s o) := by
  have hB0 : Below w.heap.size w ((w.alloc (.cells #[.bool false, .int .i64 0, .slice none 0 0] 34)).alloc (.cells #[.bool true, .int .i64 0, .slice none 0 0] 34)) := by repeat (first | with_reducible assumption | with_reducible exact Below.refl _ _ | with_reducible apply Below.drew | (with_reducible refine Below.alloc ?_ (by first | omega | (simp only [zA, zS, zD, zN]; omega) | (dsimp only; omega) | (simp only [zA, zS, zD, zN]; dsimp only; omega)) _) | (with_reducible refine Below.setCell ?_ (by first | omega | (simp only [zA, zS, zD, zN]; omega) | (dsimp only; omega) | (simp only [zA, zS, zD, zN]; dsimp only; omega)) _) | (with_reducible apply below_drewN))
  have X0 := (Blk.new w #[.bool false, .int .i64 0, .slice none 0 0] 34).alloc (.cells #[.bool true, .int .i64 0, .slice none 0 0] 34)
  have V0 : Blk ((w.alloc (.cells #[.bool false, .int .i64 0, .slice none 0 0] 34)).alloc (.cells #[.bool true, .int .i64 0, .slice none 0 0] 34)) (w.heap.size + 1) #[.bool true, .int .i64 0, .slice none 0 0] 34 := by simpa using Blk.new (w.alloc (.cells #[.bool false, .int .i64 0, .slice none 0 0] 34)) #[.bool true, .int .i64 0, .slice none 0 0] 34
  have p0 : ¬ (d : Int) + 1 < 1 := by omega
  obtain ⟨hl, kb, hnx⟩ := byte_at hd
  have p1 : ¬ (s.length : Int) ≤ (a : Int) := by omega
  have hrl : r.length + 1 + a = s.length := by have := congrArg List.length hd; simp at this; omega
  have HI0 : Hid (VaI s d w o (r.length + 1) [] (a + 1) (.slice none 0 0) [] (fun _ => False) ((w.alloc (.cells #[.bool false, .int .i64 0, .slice none 0 0] 34)).alloc (.cells #[.bool true, .int .i64 0, .slice none 0 0] 34))) :=
    ⟨by rw [hnx]; exact HO.out, by rw [hnx]; omega, by omega, by simp, X0, V0, Items.nil _ _, fun _ h => h.elim, hB0⟩
  clear hd X0 V0 hB0 hnx
  go_enter Tryd.func49, Tryd.ntmps49
  go_wp2_with fail
  go_loopw [1] (fun a wr => ∃ n items p iv cs S, a = .int .i64 (p : Nat) ∧ VaI s d w o n items p iv cs S wr) (fun a _ => s.length - (intOf a).toNat)
  case atStart => exact ⟨_, _, _, _, _, _, by go_num, HI0.out⟩
  case round =>
    obtain ⟨n, items, p, iv, cs, S, rfl, hI⟩ := hrel
    clear HI0 kb hl hrl p1 p0
    have RR := hI.r
    have VR := hI.v
    have HIT := Lib.hid hI.it
    have hSE := Lib.hid hI.hS
    have HB := Lib.hid hI.b
    have HEQ := Lib.hid hI.eq
    have hfu := hI.fuel
    have hps := hI.hp
    have hle := hI.len
    have hlw : w.heap.size + 1 < wr.heap.size := VR.lt
    obtain ⟨iad, icap, rfl⟩ := hI.it.shape
    clear hI
    have x0 := RR.cell 0
    have x1 := RR.cell 1
    have x2 := RR.cell 2
    simp only [List.getElem?_toArray, List.getElem?_cons_succ, List.getElem?_cons_zero] at x0 x1 x2
    have v0 := VR.cell 0
    have v1 := VR.cell 1
    have v2 := VR.cell 2
    simp only [List.getElem?_toArray, List.getElem?_cons_succ, List.getElem?_cons_zero] at v0 v1 v2
    have ux0 := RR.unfrozen 0
    have ux1 := RR.unfrozen 1
    have ux2 := RR.unfrozen 2
    have uv2 := VR.unfrozen 2
    obtain ⟨nn, rfl⟩ : ∃ k, n = k + 1 := ⟨n - 1, by omega⟩
    cases hdp : s.drop p with
    | nil =>
      have hpe : p = s.length := by have := congrArg List.length hdp; simp at this; omega
      have q0 : ¬ (p : Int) < (s.length : Int) := by omega
      have q1 : (s.length : Int) ≤ (p : Int) := by omega
      have HNO : Hid (o = none) := by show _ = _; rw [HEQ.out, hdp]; rfl
      clear hdp hpe HEQ
      go_wp2_with fail
      clear x0 x1 x2 v0 v1 v2 ux0 ux1 ux2 uv2
      have XZ := ((RR.set 0 (.bool false)).set 1 (.int .i64 0)).set 2 (.slice none 0 0)
      simp only [List.setIfInBounds_toArray, List.set_cons_zero, List.set_cons_succ] at XZ
      have hBZ : Below w.heap.size w (((wr.setCell ⟨w.heap.size, 0, none⟩ (.bool false)).setCell ⟨w.heap.size, 1, none⟩ (.int .i64 0)).setCell ⟨w.heap.size, 2, none⟩ (.slice none 0 0)) := Below.setCell (Below.setCell (Below.setCell HB.out (Nat.le_refl _) _) (Nat.le_refl _) _) (Nat.le_refl _) _
      have d0 := XZ.cell 0
      have d1 := XZ.cell 1
      have d2 := XZ.cell 2
      simp only [List.getElem?_toArray, List.getElem?_cons_succ, List.getElem?_cons_zero] at d0 d1 d2
      refine bodyPost_ret (v := .tuple #[.agg #[.bool false, .int .i64 0, .slice none 0 0], .int .i64 (-1)]) (by simp [results, Tryd.results49, go_sem, d0, d1, d2]) rfl ?_
      exact AtR.no HNO.out hBZ
    | cons c t =>
      obtain ⟨hlp, kb, hnx⟩ := byte_at hdp
      have q0 : (p : Int) < (s.length : Int) := by omega
      have q1 : ¬ (s.length : Int) ≤ (p : Int) := by omega
      have heq := HEQ.out
      rw [hdp] at heq
      unfold rvL at heq
      clear HEQ
      by_cases h41 : c = 41
      · rw [if_pos h41] at heq
        subst h41
        have HYES : Hid (o = some (.mk true 0 items, t)) := heq
        have HNX := Lib.hid hnx
        clear heq hdp hnx
        go_wp2_with fail
        clear x0 x1 x2 v0 v1 v2 ux0 ux1 ux2 uv2
        have XZ := ((RR.set 0 (.bool true)).set 1 (.int .i64 0)).set 2 (.slice iad items.length icap)
        simp only [List.setIfInBounds_toArray, List.set_cons_zero, List.set_cons_succ] at XZ
        have hBZ : Below w.heap.size w (((wr.setCell ⟨w.heap.size, 0, none⟩ (.bool true)).setCell ⟨w.heap.size, 1, none⟩ (.int .i64 0)).setCell ⟨w.heap.size, 2, none⟩ (.slice iad items.length icap)) := Below.setCell (Below.setCell (Below.setCell HB.out (Nat.le_refl _) _) (Nat.le_refl _) _) (Nat.le_refl _) _
        have hlo := HIT.out.lt
        have IE := HIT.out.keep (w' := ((wr.setCell ⟨w.heap.size, 0, none⟩ (.bool true)).setCell ⟨w.heap.size, 1, none⟩ (.int .i64 0)).setCell ⟨w.heap.size, 2, none⟩ (.slice iad items.length icap)) (by simp only [size_setCell]; exact Nat.le_refl _) (fun b hb _ => by
          have := (hSE.out b hb).1
          rw [Below.heap_setCell _ _ _ _ (by dsimp only; omega), Below.heap_setCell _ _ _ _ (by dsimp only; omega), Below.heap_setCell _ _ _ _ (by dsimp only; omega)]) (fun b hb _ => by
          have := (hlo b hb).1
          rw [Below.heap_setCell _ _ _ _ (by dsimp only; omega), Below.heap_setCell _ _ _ _ (by dsimp only; omega), Below.heap_setCell _ _ _ _ (by dsimp only; omega)])
        have IV := IE.val.keep (S' := fun b => w.heap.size ≤ b) (Nat.le_refl _) (fun b hb _ => ⟨by
          rcases hb with hb | hb
          · have := (hSE.out b hb).1; omega
          · have := (hlo b hb).1; omega, rfl⟩)
        generalize ((wr.setCell ⟨w.heap.size, 0, none⟩ (.bool true)).setCell ⟨w.heap.size, 1, none⟩ (.int .i64 0)).setCell ⟨w.heap.size, 2, none⟩ (.slice iad items.length icap) = WE at *
        have d0 := XZ.cell 0
        have d1 := XZ.cell 1
        have d2 := XZ.cell 2
        simp only [List.getElem?_toArray, List.getElem?_cons_succ, List.getElem?_cons_zero] at d0 d1 d2
        refine bodyPost_ret (v := .tuple #[.agg #[.bool true, .int .i64 0, .slice iad items.length icap], .int .i64 ((p + 1 : Nat))]) (by simp [results, Tryd.results49, go_sem, d0, d1, d2]) rfl ?_
        exact AtR.yes HYES.out IV (by omega) HNX.out hBZ
      · rw [if_neg h41] at heq
        have k41 := ne41 h41
        by_cases hemp : items = []
        · subst hemp
          rw [if_neg (by simp)] at heq
          rw [← hdp] at heq
          have hqs : p ≤ s.length := hps
          have HCO : Hid (o = listO (match rvA d (s.drop p) with | none => none | some x => rvL (rvA d) nn ([] ++ [x.1]) x.2)) := heq
          have hfu2 : s.length - p < nn + 1 := by rw [List.length_drop] at hfu; exact hfu
          simp only [List.length_nil] at VR HIT v2 hle
          clear heq hdp hnx h41 hfu
          go_wp2_with fail
          refine (IH.out p wr hqs).mono ?_
          rintro e w5 ⟨hres, hb5⟩
          have hsz5 := hb5.size
          have R5 := RR.ext hb5
          have V5 := VR.ext hb5
          have I5 := HIT.out.keep hsz5 (fun b _ hl => hb5.block b hl) (fun b _ hl => hb5.block b hl)
          have HB5 := Lib.hid (HB.out.trans (hb5.mono HB.out.size))
          have HLQ := Lib.hid HIT.out.lt
          clear hb5 RR VR x0 x1 x2 v0 v1 v2 ux0 ux1 ux2 uv2
          have hlt5 : w.heap.size + 1 < w5.heap.size := V5.lt
          have HTK := Lib.hid (rvA_lt d (s.drop p))
          generalize rvA d (s.drop p) = rr at *
          cases rr with
          | none =>
            dsimp only at hres HCO
            subst hres
            have HNO : Hid (o = none) := HCO.out
            have RK := R5.alloc (.cells #[.bool false, .int .i64 0, .slice none 0 0] 34)
            have hBK : Below w.heap.size w (w5.alloc (.cells #[.bool false, .int .i64 0, .slice none 0 0] 34)) := HB5.out.alloc HB5.out.size _
            have x0 := RK.cell 0
            have x1 := RK.cell 1
            have x2 := RK.cell 2
            simp only [List.getElem?_toArray, List.getElem?_cons_succ, List.getElem?_cons_zero] at x0 x1 x2
            have ux0 := RK.unfrozen 0
            have ux1 := RK.unfrozen 1
            have ux2 := RK.unfrozen 2
            go_wp2_with fail
            have XZ := ((RK.set 0 (.bool false)).set 1 (.int .i64 0)).set 2 (.slice none 0 0)
            simp only [List.setIfInBounds_toArray, List.set_cons_zero, List.set_cons_succ] at XZ
            have hBZ : Below w.heap.size w ((((w5.alloc (.cells #[.bool false, .int .i64 0, .slice none 0 0] 34)).setCell ⟨w.heap.size, 0, none⟩ (.bool false)).setCell ⟨w.heap.size, 1, none⟩ (.int .i64 0)).setCell ⟨w.heap.size, 2, none⟩ (.slice none 0 0)) := Below.setCell (Below.setCell (Below.setCell hBK (Nat.le_refl _) _) (Nat.le_refl _) _) (Nat.le_refl _) _
            have d0 := XZ.cell 0
            have d1 := XZ.cell 1
            have d2 := XZ.cell 2
            simp only [List.getElem?_toArray, List.getElem?_cons_succ, List.getElem?_cons_zero] at d0 d1 d2
            refine bodyPost_ret (v := .tuple #[.agg #[.bool false, .int .i64 0, .slice none 0 0], .int .i64 (-1)]) (by simp [results, Tryd.results49, go_sem, d0, d1, d2]) rfl ?_
            exact AtR.no HNO.out hBZ
          | some rr =>
            obtain ⟨xt, xs⟩ := rr
            dsimp only at hres HCO HTK
            obtain ⟨xv, pp, rfl, hxv, hpp, hdp⟩ := hres
            obtain ⟨xl, xn, xk, xad, xcap, rfl⟩ := hxv.shape
            have HXV := Lib.hid hxv
            have hpl : xs.length < (s.drop p).length := HTK.out _ rfl
            have hlx : xs.length = s.length - pp := by rw [← hdp]; simp
            rw [List.length_drop] at hpl
            have HDP := Lib.hid hdp
            clear hxv hdp HTK
            have p30 : ¬ (pp : Int) < 0 := by omega
            have hBB : Below w5.heap.size w5 ((w5.alloc (.cells #[.bool xl, .int .i64 xn, .slice xad xk xcap] 34)).alloc (.cells #[.bool xl, .int .i64 xn, .slice xad xk xcap] 34)) := by repeat (first | with_reducible assumption | with_reducible exact Below.refl _ _ | with_reducible apply Below.drew | (with_reducible refine Below.alloc ?_ (by first | omega | (simp only [zA, zS, zD, zN]; omega) | (dsimp only; omega) | (simp only [zA, zS, zD, zN]; dsimp only; omega)) _) | (with_reducible refine Below.setCell ?_ (by first | omega | (simp only [zA, zS, zD, zN]; omega) | (dsimp only; omega) | (simp only [zA, zS, zD, zN]; dsimp only; omega)) _) | (with_reducible apply below_drewN))
            have HBC := Lib.hid (HB5.out.trans (hBB.mono HB5.out.size))
            have HRC := Lib.hid ((R5.alloc (.cells #[.bool xl, .int .i64 xn, .slice xad xk xcap] 34)).alloc (.cells #[.bool xl, .int .i64 xn, .slice xad xk xcap] 34))
            have HVC := Lib.hid ((V5.alloc (.cells #[.bool xl, .int .i64 xn, .slice xad xk xcap] 34)).alloc (.cells #[.bool xl, .int .i64 xn, .slice xad xk xcap] 34))
            have HIC := Lib.hid (I5.keep hBB.size (fun b _ hl => hBB.block b hl) (fun b _ hl => hBB.block b hl))
            have ZN : Blk ((w5.alloc (.cells #[.bool xl, .int .i64 xn, .slice xad xk xcap] 34)).alloc (.cells #[.bool xl, .int .i64 xn, .slice xad xk xcap] 34)) (w5.heap.size + 1) #[.bool xl, .int .i64 xn, .slice xad xk xcap] 34 := by simpa using Blk.new (w5.alloc (.cells #[.bool xl, .int .i64 xn, .slice xad xk xcap] 34)) #[.bool xl, .int .i64 xn, .slice xad xk xcap] 34
            have HZN := Lib.hid ZN
            have HVX : Hid (ValIn (fun b => wr.heap.size ≤ b ∧ b < w5.heap.size) ((w5.alloc (.cells #[.bool xl, .int .i64 xn, .slice xad xk xcap] 34)).alloc (.cells #[.bool xl, .int .i64 xn, .slice xad xk xcap] 34)) (.agg #[.bool xl, .int .i64 xn, .slice xad xk xcap]) xt) := HXV.out.keep hBB.size (fun b hb hl => ⟨⟨hb, hl⟩, hBB.block b hl⟩)
            have VA := V5.alloc (.cells #[.bool xl, .int .i64 xn, .slice xad xk xcap] 34)
            have NA : Blk (w5.alloc (.cells #[.bool xl, .int .i64 xn, .slice xad xk xcap] 34)) w5.heap.size #[.bool xl, .int .i64 xn, .slice xad xk xcap] 34 := Blk.new _ _ _
            have v0 := VA.cell 0
            have v1 := VA.cell 1
            have v2 := VA.cell 2
            simp only [List.getElem?_toArray, List.getElem?_cons_succ, List.getElem?_cons_zero] at v0 v1 v2
            have n0 := NA.cell 0
            have n1 := NA.cell 1
            have n2 := NA.cell 2
            simp only [List.getElem?_toArray, List.getElem?_cons_succ, List.getElem?_cons_zero] at n0 n1 n2
            have hzB : ((w5.alloc (.cells #[.bool xl, .int .i64 xn, .slice xad xk xcap] 34)).alloc (.cells #[.bool xl, .int .i64 xn, .slice xad xk xcap] 34)).heap.size = w5.heap.size + 1 + 1 := by simp
            have HZB := Lib.hid hzB
            have hil : List.length ([] : List VT) ≤ 1000000000 := by first | omega | simp
            clear hzB hBB ZN VA NA HXV R5 V5 I5 HB5
            go_wp2_with (at_builtin; go_loud (refine wpl_append_at (o := ⟨some 99, _, _, _, _, _⟩) rfl _ _ 32 rfl (w.heap.size + 2) 34 Tryd.underlying32 info_value3 rfl (by decide) rfl HIC.out.own rfl (.inr ⟨⟨w5.heap.size + 1, 0, none⟩, 1, rfl, World.news_of_block HZN.out⟩) (by simp) (by simp [Value.oneCell']) (by unfold maxLen; omega) (by omega) (by have := HZB.out; omega) ?_; intro v6 w6 ho6 hg6 hnil6 hat6; have hlo := HIC.out.lt; have IT6 := Items.push HIC.out ho6 hg6 hat6 (fun b hb => by have := (hSE.out b hb).2; have := HZB.out; omega) (S2 := fun b => wr.heap.size ≤ b ∧ b < w5.heap.size) (fun b hb => ⟨by have := HZB.out; omega, fun e => by have := (HLQ.out b e).2; omega⟩) HVX.out; obtain ⟨vad, vcap, rfl, _⟩ := IT6.shape; have V6 : Blk w6 (w.heap.size + 1) #[.bool true, .int .i64 0, .slice iad 0 icap] 34 := (hg6.block _ HVC.out.lt (fun e => by have := (hlo _ e.symm).1; omega)).trans HVC.out; have v62 : w6.cell? ⟨w.heap.size + 1, 2, none⟩ = some (.slice iad 0 icap) := V6.cell 2; have u62 := V6.unfrozen 2))
            have e1 : (List.append ([] : List VT) [xt]).length = 1 := by simp
            have IT6' : Items w6 (w.heap.size + 2) (fun b => S b ∨ wr.heap.size ≤ b ∧ b < w5.heap.size) (.slice vad (1) vcap) (cs ++ [.bool xl, .int .i64 xn, .slice xad xk xcap]) (([] : List VT) ++ [xt]) := by rw [← e1]; exact IT6
            have hne : ∀ b, b < w.heap.size + 2 → ¬ Value.ownBlock (.slice iad (List.length ([] : List VT)) icap) = some b := fun b hb e => by have := (hlo b e).1; omega
            have R6 : Blk w6 w.heap.size #[.bool false, .int .i64 0, .slice none 0 0] 34 := (hg6.block _ HRC.out.lt (fun e => hne w.heap.size (by omega) e.symm)).trans HRC.out
            have R7 := R6.oth (w.heap.size + 1) 2 (by omega) (.slice vad (1) vcap)
            have V7 := V6.set 2 (.slice vad (1) vcap)
            simp only [List.setIfInBounds_toArray, List.set_cons_zero, List.set_cons_succ] at V7
            have hlo6 := IT6'.lt
            have hS6 : ∀ b, (S b ∨ wr.heap.size ≤ b ∧ b < w5.heap.size) → w.heap.size + 2 ≤ b := fun b hb => by
              rcases hb with hb | hb
              · exact (hSE.out b hb).1
              · omega
            have IT7 := IT6'.keep (w' := w6.setCell ⟨w.heap.size + 1, 2, none⟩ (.slice vad (1) vcap)) (by rw [size_setCell]; exact Nat.le_refl _) (fun b hb _ => by have := hS6 b hb; exact Below.heap_setCell _ _ _ _ (by dsimp only; omega)) (fun b hb _ => by have := (hlo6 b hb).1; exact Below.heap_setCell _ _ _ _ (by dsimp only; omega))
            have h56 := hg6.size
            have hzB := HZB.out
            have hB7 : Below w.heap.size w (w6.setCell ⟨w.heap.size + 1, 2, none⟩ (.slice vad (1) vcap)) := (HBC.out.grown hg6 HBC.out.size (fun b e => by have := (hlo b e).1; omega)).setCell (p := ⟨w.heap.size + 1, 2, none⟩) (Nat.le_succ _) _
            have HN : Hid (VaI s d w o nn (([] : List VT) ++ [xt]) pp (.slice vad (1) vcap) (cs ++ [.bool xl, .int .i64 xn, .slice xad xk xcap]) (fun b => S b ∨ wr.heap.size ≤ b ∧ b < w5.heap.size) (w6.setCell ⟨w.heap.size + 1, 2, none⟩ (.slice vad (1) vcap))) :=
              ⟨by rw [HDP.out]; exact HCO.out, by rw [HDP.out]; omega, hpp, by rw [List.length_append, List.length_singleton]; (try simp only [List.length_nil]); omega, R7, V7, IT7, fun b hb => ⟨hS6 b hb, by
                rw [size_setCell]
                rcases hb with hb | hb
                · have := (hSE.out b hb).2; omega
                · omega⟩, hB7⟩
            exact ⟨⟨_, _, _, _, _, _, rfl, HN.out⟩, by simp [intOf]; omega⟩
        · have hie : items.isEmpty = false := by cases items with
            | nil => exact absurd rfl hemp
            | cons x t => rfl
          rw [if_pos hie] at heq
          have p18 : 0 < items.length := List.length_pos_iff.2 hemp
          by_cases h32 : c = 32
          · rw [if_pos h32, ← hnx] at heq
            subst h32
            have hqs : p + 1 ≤ s.length := hlp
            have HCO : Hid (o = listO (match rvA d (s.drop (p + 1)) with | none => none | some x => rvL (rvA d) nn (items ++ [x.1]) x.2)) := heq
            have hfu2 : s.length - p < nn + 1 := by rw [List.length_drop] at hfu; exact hfu
            clear heq hdp hnx hfu h41
            go_wp2_with fail
            refine (IH.out (p + 1) wr hqs).mono ?_
            rintro e w5 ⟨hres, hb5⟩
            have hsz5 := hb5.size
            have R5 := RR.ext hb5
            have V5 := VR.ext hb5
            have I5 := HIT.out.keep hsz5 (fun b _ hl => hb5.block b hl) (fun b _ hl => hb5.block b hl)
            have HB5 := Lib.hid (HB.out.trans (hb5.mono HB.out.size))
            have HLQ := Lib.hid HIT.out.lt
            clear hb5 RR VR x0 x1 x2 v0 v1 v2 ux0 ux1 ux2 uv2
            have hlt5 : w.heap.size + 1 < w5.heap.size := V5.lt
            have HTK := Lib.hid (rvA_lt d (s.drop (p + 1)))
            generalize rvA d (s.drop (p + 1)) = rr at *
            cases rr with
            | none =>
              dsimp only at hres HCO
              subst hres
              have HNO : Hid (o = none) := HCO.out
              have RK := R5.alloc (.cells #[.bool false, .int .i64 0, .slice none 0 0] 34)
              have hBK : Below w.heap.size w (w5.alloc (.cells #[.bool false, .int .i64 0, .slice none 0 0] 34)) := HB5.out.alloc HB5.out.size _
              have x0 := RK.cell 0
              have x1 := RK.cell 1
              have x2 := RK.cell 2
              simp only [List.getElem?_toArray, List.getElem?_cons_succ, List.getElem?_cons_zero] at x0 x1 x2
              have ux0 := RK.unfrozen 0
              have ux1 := RK.unfrozen 1
              have ux2 := RK.unfrozen 2
              go_wp2_with fail
              have XZ := ((RK.set 0 (.bool false)).set 1 (.int .i64 0)).set 2 (.slice none 0 0)
              simp only [List.setIfInBounds_toArray, List.set_cons_zero, List.set_cons_succ] at XZ
              have hBZ : Below w.heap.size w ((((w5.alloc (.cells #[.bool false, .int .i64 0, .slice none 0 0] 34)).setCell ⟨w.heap.size, 0, none⟩ (.bool false)).setCell ⟨w.heap.size, 1, none⟩ (.int .i64 0)).setCell ⟨w.heap.size, 2, none⟩ (.slice none 0 0)) := Below.setCell (Below.setCell (Below.setCell hBK (Nat.le_refl _) _) (Nat.le_refl _) _) (Nat.le_refl _) _
              have d0 := XZ.cell 0
              have d1 := XZ.cell 1
              have d2 := XZ.cell 2
              simp only [List.getElem?_toArray, List.getElem?_cons_succ, List.getElem?_cons_zero] at d0 d1 d2
              refine bodyPost_ret (v := .tuple #[.agg #[.bool false, .int .i64 0, .slice none 0 0], .int .i64 (-1)]) (by simp [results, Tryd.results49, go_sem, d0, d1, d2]) rfl ?_
              exact AtR.no HNO.out hBZ
            | some rr =>
              obtain ⟨xt, xs⟩ := rr
              dsimp only at hres HCO HTK
              obtain ⟨xv, pp, rfl, hxv, hpp, hdp⟩ := hres
              obtain ⟨xl, xn, xk, xad, xcap, rfl⟩ := hxv.shape
              have HXV := Lib.hid hxv
              have hpl : xs.length < (s.drop (p + 1)).length := HTK.out _ rfl
              have hlx : xs.length = s.length - pp := by rw [← hdp]; simp
              rw [List.length_drop] at hpl
              have HDP := Lib.hid hdp
              clear hxv hdp HTK
              have p30 : ¬ (pp : Int) < 0 := by omega
              have hBB : Below w5.heap.size w5 ((w5.alloc (.cells #[.bool xl, .int .i64 xn, .slice xad xk xcap] 34)).alloc (.cells #[.bool xl, .int .i64 xn, .slice xad xk xcap] 34)) := by repeat (first | with_reducible assumption | with_reducible exact Below.refl _ _ | with_reducible apply Below.drew | (with_reducible refine Below.alloc ?_ (by first | omega | (simp only [zA, zS, zD, zN]; omega) | (dsimp only; omega) | (simp only [zA, zS, zD, zN]; dsimp only; omega)) _) | (with_reducible refine Below.setCell ?_ (by first | omega | (simp only [zA, zS, zD, zN]; omega) | (dsimp only; omega) | (simp only [zA, zS, zD, zN]; dsimp only; omega)) _) | (with_reducible apply below_drewN))
              have HBC := Lib.hid (HB5.out.trans (hBB.mono HB5.out.size))
              have HRC := Lib.hid ((R5.alloc (.cells #[.bool xl, .int .i64 xn, .slice xad xk xcap] 34)).alloc (.cells #[.bool xl, .int .i64 xn, .slice xad xk xcap] 34))
              have HVC := Lib.hid ((V5.alloc (.cells #[.bool xl, .int .i64 xn, .slice xad xk xcap] 34)).alloc (.cells #[.bool xl, .int .i64 xn, .slice xad xk xcap] 34))
              have HIC := Lib.hid (I5.keep hBB.size (fun b _ hl => hBB.block b hl) (fun b _ hl => hBB.block b hl))
              have ZN : Blk ((w5.alloc (.cells #[.bool xl, .int .i64 xn, .slice xad xk xcap] 34)).alloc (.cells #[.bool xl, .int .i64 xn, .slice xad xk xcap] 34)) (w5.heap.size + 1) #[.bool xl, .int .i64 xn, .slice xad xk xcap] 34 := by simpa using Blk.new (w5.alloc (.cells #[.bool xl, .int .i64 xn, .slice xad xk xcap] 34)) #[.bool xl, .int .i64 xn, .slice xad xk xcap] 34
              have HZN := Lib.hid ZN
              have HVX : Hid (ValIn (fun b => wr.heap.size ≤ b ∧ b < w5.heap.size) ((w5.alloc (.cells #[.bool xl, .int .i64 xn, .slice xad xk xcap] 34)).alloc (.cells #[.bool xl, .int .i64 xn, .slice xad xk xcap] 34)) (.agg #[.bool xl, .int .i64 xn, .slice xad xk xcap]) xt) := HXV.out.keep hBB.size (fun b hb hl => ⟨⟨hb, hl⟩, hBB.block b hl⟩)
              have VA := V5.alloc (.cells #[.bool xl, .int .i64 xn, .slice xad xk xcap] 34)
              have NA : Blk (w5.alloc (.cells #[.bool xl, .int .i64 xn, .slice xad xk xcap] 34)) w5.heap.size #[.bool xl, .int .i64 xn, .slice xad xk xcap] 34 := Blk.new _ _ _
              have v0 := VA.cell 0
              have v1 := VA.cell 1
              have v2 := VA.cell 2
              simp only [List.getElem?_toArray, List.getElem?_cons_succ, List.getElem?_cons_zero] at v0 v1 v2
              have n0 := NA.cell 0
              have n1 := NA.cell 1
              have n2 := NA.cell 2
              simp only [List.getElem?_toArray, List.getElem?_cons_succ, List.getElem?_cons_zero] at n0 n1 n2
              have hzB : ((w5.alloc (.cells #[.bool xl, .int .i64 xn, .slice xad xk xcap] 34)).alloc (.cells #[.bool xl, .int .i64 xn, .slice xad xk xcap] 34)).heap.size = w5.heap.size + 1 + 1 := by simp
              have HZB := Lib.hid hzB
              have hil : List.length items ≤ 1000000000 := by first | omega | simp
              clear hzB hBB ZN VA NA HXV R5 V5 I5 HB5
              go_wp2_with (at_builtin; go_loud (refine wpl_append_at (o := ⟨some 99, _, _, _, _, _⟩) rfl _ _ 32 rfl (w.heap.size + 2) 34 Tryd.underlying32 info_value3 rfl (by decide) rfl HIC.out.own rfl (.inr ⟨⟨w5.heap.size + 1, 0, none⟩, 1, rfl, World.news_of_block HZN.out⟩) (by simp) (by simp [Value.oneCell']) (by unfold maxLen; omega) (by omega) (by have := HZB.out; omega) ?_; intro v6 w6 ho6 hg6 hnil6 hat6; have hlo := HIC.out.lt; have IT6 := Items.push HIC.out ho6 hg6 hat6 (fun b hb => by have := (hSE.out b hb).2; have := HZB.out; omega) (S2 := fun b => wr.heap.size ≤ b ∧ b < w5.heap.size) (fun b hb => ⟨by have := HZB.out; omega, fun e => by have := (HLQ.out b e).2; omega⟩) HVX.out; obtain ⟨vad, vcap, rfl, _⟩ := IT6.shape; have V6 : Blk w6 (w.heap.size + 1) #[.bool true, .int .i64 0, .slice iad items.length icap] 34 := (hg6.block _ HVC.out.lt (fun e => by have := (hlo _ e.symm).1; omega)).trans HVC.out; have v62 : w6.cell? ⟨w.heap.size + 1, 2, none⟩ = some (.slice iad items.length icap) := V6.cell 2; have u62 := V6.unfrozen 2))
              have e1 : (List.append items [xt]).length = items.length + 1 := by simp
              have IT6' : Items w6 (w.heap.size + 2) (fun b => S b ∨ wr.heap.size ≤ b ∧ b < w5.heap.size) (.slice vad (items.length + 1) vcap) (cs ++ [.bool xl, .int .i64 xn, .slice xad xk xcap]) (items ++ [xt]) := by rw [← e1]; exact IT6
              have hne : ∀ b, b < w.heap.size + 2 → ¬ Value.ownBlock (.slice iad (List.length items) icap) = some b := fun b hb e => by have := (hlo b e).1; omega
              have R6 : Blk w6 w.heap.size #[.bool false, .int .i64 0, .slice none 0 0] 34 := (hg6.block _ HRC.out.lt (fun e => hne w.heap.size (by omega) e.symm)).trans HRC.out
              have R7 := R6.oth (w.heap.size + 1) 2 (by omega) (.slice vad (items.length + 1) vcap)
              have V7 := V6.set 2 (.slice vad (items.length + 1) vcap)
              simp only [List.setIfInBounds_toArray, List.set_cons_zero, List.set_cons_succ] at V7
              have hlo6 := IT6'.lt
              have hS6 : ∀ b, (S b ∨ wr.heap.size ≤ b ∧ b < w5.heap.size) → w.heap.size + 2 ≤ b := fun b hb => by
                rcases hb with hb | hb
                · exact (hSE.out b hb).1
                · omega
              have IT7 := IT6'.keep (w' := w6.setCell ⟨w.heap.size + 1, 2, none⟩ (.slice vad (items.length + 1) vcap)) (by rw [size_setCell]; exact Nat.le_refl _) (fun b hb _ => by have := hS6 b hb; exact Below.heap_setCell _ _ _ _ (by dsimp only; omega)) (fun b hb _ => by have := (hlo6 b hb).1; exact Below.heap_setCell _ _ _ _ (by dsimp only; omega))
              have h56 := hg6.size
              have hzB := HZB.out
              have hB7 : Below w.heap.size w (w6.setCell ⟨w.heap.size + 1, 2, none⟩ (.slice vad (items.length + 1) vcap)) := (HBC.out.grown hg6 HBC.out.size (fun b e => by have := (hlo b e).1; omega)).setCell (p := ⟨w.heap.size + 1, 2, none⟩) (Nat.le_succ _) _
              have HN : Hid (VaI s d w o nn (items ++ [xt]) pp (.slice vad (items.length + 1) vcap) (cs ++ [.bool xl, .int .i64 xn, .slice xad xk xcap]) (fun b => S b ∨ wr.heap.size ≤ b ∧ b < w5.heap.size) (w6.setCell ⟨w.heap.size + 1, 2, none⟩ (.slice vad (items.length + 1) vcap))) :=
                ⟨by rw [HDP.out]; exact HCO.out, by rw [HDP.out]; omega, hpp, by rw [List.length_append, List.length_singleton]; (try simp only [List.length_nil]); omega, R7, V7, IT7, fun b hb => ⟨hS6 b hb, by
                  rw [size_setCell]
                  rcases hb with hb | hb
                  · have := (hSE.out b hb).2; omega
                  · omega⟩, hB7⟩
              exact ⟨⟨_, _, _, _, _, _, rfl, HN.out⟩, by simp [intOf]; omega⟩
          · rw [if_neg h32] at heq
            have k32 := ne32 h32
            have HNO : Hid (o = none) := heq
            clear heq hdp hnx hfu h41 h32
            go_wp2_with fail
            clear x0 x1 x2 v0 v1 v2 ux0 ux1 ux2 uv2
            have XZ := ((RR.set 0 (.bool false)).set 1 (.int .i64 0)).set 2 (.slice none 0 0)
            simp only [List.setIfInBounds_toArray, List.set_cons_zero, List.set_cons_succ] at XZ
            have hBZ : Below w.heap.size w (((wr.setCell ⟨w.heap.size, 0, none⟩ (.bool false)).setCell ⟨w.heap.size, 1, none⟩ (.int .i64 0)).setCell ⟨w.heap.size, 2, none⟩ (.slice none 0 0)) := Below.setCell (Below.setCell (Below.setCell HB.out (Nat.le_refl _) _) (Nat.le_refl _) _) (Nat.le_refl _) _
            have d0 := XZ.cell 0
            have d1 := XZ.cell 1
            have d2 := XZ.cell 2
            simp only [List.getElem?_toArray, List.getElem?_cons_succ, List.getElem?_cons_zero] at d0 d1 d2
            refine bodyPost_ret (v := .tuple #[.agg #[.bool false, .int .i64 0, .slice none 0 0], .int .i64 (-1)]) (by simp [results, Tryd.results49, go_sem, d0, d1, d2]) rfl ?_
            exact AtR.no HNO.out hBZ
end Go.Proofs.YtlhdiekibkdiaaaDoor
