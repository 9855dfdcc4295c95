/- The walk through the statement ShrinkNumber. -/
import Derived.Test.YtcecpggkeaohnaaDoorPNumber
import Derived.Test.YtcecpggkeaohnaaDoorLMade
namespace Go.Proofs.YtcecpggkeaohnaaDoor
set_option maxRecDepth 100000
open Go.RowKit
set_option linter.unusedSimpArgs false
set_option linter.unusedVariables false
theorem num_at (w : World) (a b : Int) (ha : In64 a) (hb : In64 b) : GenAt w (.agg #[.int .i64 2, .int .i64 a, .int .i64 b, .slice none 0 0]) (gNum a b) :=
  GenAt.mk (s := []) ⟨by omega, by omega⟩ ha hb (by simp) (by simp) (fun _ => rfl) (fun _ => .nilIface) (fun h => absurd h (by simp)) (fun i hi => absurd hi (by simp))
theorem edge_at {w : World} {bl : Nat} (e : Int) (he : In64 e) (h : Blk w bl #[.int .i64 2, .int .i64 0, .slice none 0 0, .int .i64 1, .int .i64 e, .slice none 0 0] 24) : ExprAt w (.agg #[.int .i64 7, .int .i64 0, .slice (some ⟨bl, 0, none⟩) 2 2]) (xEdge e) :=
  ExprAt.make (s := [_, _]) ⟨by omega, by omega⟩ ⟨by omega, by omega⟩ (by simp) (by simp) (exprs_two h (ExprAt.leaf _ _ ⟨by omega, by omega⟩ ⟨by omega, by omega⟩) (ExprAt.leaf _ _ ⟨by omega, by omega⟩ he))
theorem one_at {w : World} {bl : Nat} (x : Int) (hx : In64 x) (h : Blk w bl #[.int .i64 x] 3) : IntsAt w (.slice (some ⟨bl, 0, none⟩) 1 1) [x] := by
  refine ⟨by simpa using hx, .inr ⟨_, 1, rfl, by simp, by decide, fun i hi => ?_⟩⟩
  have : i = 0 := by simpa using hi
  subst this
  exact h.cell 0
set_option maxRecDepth 100000 in
set_option maxHeartbeats 8000000 in
theorem shrinkNumber_go {v0 v1 v2 v3 : Value} (w : World) (hT : TakesAt w) (a : Int) (o0 : IntAt v0 a) (b : Int) (o1 : IntAt v1 b) (e : Int) (o2 : IntAt v2 e) (x : Int) (o3 : IntAt v3 x) :
    Calls Tryd.prog 10 #[v0, v1, v2, v3] w fun ev w' => ev = .returned (.bool true) ∧ Below w.heap.size w w' := by
  have HT := Lib.hid hT
  obtain ⟨rfl, ha⟩ := o0
  obtain ⟨rfl, hb⟩ := o1
  obtain ⟨rfl, he⟩ := o2
  obtain ⟨rfl, hx⟩ := o3
  have HA := Lib.hid ha
  have HB := Lib.hid hb
  have HE := Lib.hid he
  have HX := Lib.hid hx
  clear hT ha hb he hx
  go_enter Tryd.func10, Tryd.ntmps10
  go_wp2_with fail
  refine (made_fact _).mono ?_
  rintro _ w1 ⟨rfl, hb1⟩
  go_wp2_with fail
  refine (asked_fact _ (HT.out.ext hb1)).mono ?_
  rintro _ w2 ⟨rfl, hb2⟩
  have hB2 := hb1.trans (hb2.mono hb1.size)
  clear hb1 hb2
  go_wp2_with fail
  have hBW : Below w.heap.size w ((((w2.alloc (.cells #[.int .i64 2, .int .i64 a, .int .i64 b, .slice none 0 0] 41)).alloc (.cells #[.int .i64 2, .int .i64 0, .slice none 0 0, .int .i64 1, .int .i64 e, .slice none 0 0] 24)).alloc (.cells #[.int .i64 7, .int .i64 0, .slice (some ⟨w2.heap.size + 1, 0, none⟩) 2 2] 24)).alloc (.cells #[.int .i64 x] 3)) := by
    refine Below.alloc (Below.alloc (Below.alloc (Below.alloc hB2 hB2.size _) ?_ _) ?_ _) ?_ _ <;> simp only [World.size_alloc] <;> have := hB2.size <;> omega
  have XG : Blk ((((w2.alloc (.cells #[.int .i64 2, .int .i64 a, .int .i64 b, .slice none 0 0] 41)).alloc (.cells #[.int .i64 2, .int .i64 0, .slice none 0 0, .int .i64 1, .int .i64 e, .slice none 0 0] 24)).alloc (.cells #[.int .i64 7, .int .i64 0, .slice (some ⟨w2.heap.size + 1, 0, none⟩) 2 2] 24)).alloc (.cells #[.int .i64 x] 3)) w2.heap.size #[.int .i64 2, .int .i64 a, .int .i64 b, .slice none 0 0] 41 := (((Blk.new _ _ _).alloc _).alloc _).alloc _
  have XB : Blk ((((w2.alloc (.cells #[.int .i64 2, .int .i64 a, .int .i64 b, .slice none 0 0] 41)).alloc (.cells #[.int .i64 2, .int .i64 0, .slice none 0 0, .int .i64 1, .int .i64 e, .slice none 0 0] 24)).alloc (.cells #[.int .i64 7, .int .i64 0, .slice (some ⟨w2.heap.size + 1, 0, none⟩) 2 2] 24)).alloc (.cells #[.int .i64 x] 3)) (w2.heap.size + 1) #[.int .i64 2, .int .i64 0, .slice none 0 0, .int .i64 1, .int .i64 e, .slice none 0 0] 24 := (show Blk _ _ _ _ by simpa using Blk.new (w2.alloc (.cells #[.int .i64 2, .int .i64 a, .int .i64 b, .slice none 0 0] 41)) #[.int .i64 2, .int .i64 0, .slice none 0 0, .int .i64 1, .int .i64 e, .slice none 0 0] 24).alloc _ |>.alloc _
  have XE : Blk ((((w2.alloc (.cells #[.int .i64 2, .int .i64 a, .int .i64 b, .slice none 0 0] 41)).alloc (.cells #[.int .i64 2, .int .i64 0, .slice none 0 0, .int .i64 1, .int .i64 e, .slice none 0 0] 24)).alloc (.cells #[.int .i64 7, .int .i64 0, .slice (some ⟨w2.heap.size + 1, 0, none⟩) 2 2] 24)).alloc (.cells #[.int .i64 x] 3)) (w2.heap.size + 1 + 1) #[.int .i64 7, .int .i64 0, .slice (some ⟨w2.heap.size + 1, 0, none⟩) 2 2] 24 := (show Blk _ _ _ _ by simpa using Blk.new ((w2.alloc (.cells #[.int .i64 2, .int .i64 a, .int .i64 b, .slice none 0 0] 41)).alloc (.cells #[.int .i64 2, .int .i64 0, .slice none 0 0, .int .i64 1, .int .i64 e, .slice none 0 0] 24)) #[.int .i64 7, .int .i64 0, .slice (some ⟨w2.heap.size + 1, 0, none⟩) 2 2] 24).alloc _
  have XT : Blk ((((w2.alloc (.cells #[.int .i64 2, .int .i64 a, .int .i64 b, .slice none 0 0] 41)).alloc (.cells #[.int .i64 2, .int .i64 0, .slice none 0 0, .int .i64 1, .int .i64 e, .slice none 0 0] 24)).alloc (.cells #[.int .i64 7, .int .i64 0, .slice (some ⟨w2.heap.size + 1, 0, none⟩) 2 2] 24)).alloc (.cells #[.int .i64 x] 3)) (w2.heap.size + 1 + 1 + 1) #[.int .i64 x] 3 := by simpa using Blk.new (((w2.alloc (.cells #[.int .i64 2, .int .i64 a, .int .i64 b, .slice none 0 0] 41)).alloc (.cells #[.int .i64 2, .int .i64 0, .slice none 0 0, .int .i64 1, .int .i64 e, .slice none 0 0] 24)).alloc (.cells #[.int .i64 7, .int .i64 0, .slice (some ⟨w2.heap.size + 1, 0, none⟩) 2 2] 24)) #[.int .i64 x] 3
  generalize ((((w2.alloc (.cells #[.int .i64 2, .int .i64 a, .int .i64 b, .slice none 0 0] 41)).alloc (.cells #[.int .i64 2, .int .i64 0, .slice none 0 0, .int .i64 1, .int .i64 e, .slice none 0 0] 24)).alloc (.cells #[.int .i64 7, .int .i64 0, .slice (some ⟨w2.heap.size + 1, 0, none⟩) 2 2] 24)).alloc (.cells #[.int .i64 x] 3)) = W3 at *
  have gA := num_at W3 a b HA.out HB.out
  have eA := edge_at e HE.out XB
  have tA := one_at x HX.out XT
  have HNW := Lib.hid (number_wrong (a := a) (b := b) (e := e) (x := x))
  have HWN := Lib.hid (walk_number (a := a) (b := b) (e := e) (x := x))
  by_cases hz : shErr (gNum a b) (xEdge e) [x] = 0
  · obtain ⟨hg0, hx0, hp0, hb0⟩ := shErr_zero hz
    have hr := num_range hg0
    obtain ⟨c, hc1, hc2, hc3, hc4⟩ := HWN.out hp0 hb0
    refine (shrink_ok (gNum a b) (xEdge e) [x] hp0 hx0 hb0 _ _ _ W3 (HT.out.ext hBW) gA eA tA).mono ?_
    rw [hc1]
    rintro _ w4 ⟨⟨mv, rfl, hmv⟩, hb4⟩
    have hB4 := hBW.trans (hb4.mono hBW.size)
    obtain ⟨mb, mo, mcap, rfl, hm0⟩ := hmv.single
    have ha1 : -1073741824 ≤ a := hr.1
    have ha2 : a ≤ 1073741824 := by omega
    have hc5 : c ≤ 1000 := by omega
    clear gA eA tA HNW HWN hz hg0 hx0 hp0 hb0 hc1 hmv hb4 XG XB XE XT hr
    generalize (walkR (gNum a b) (xEdge e) [x]).2 = k at *
    have HC2 := Lib.hid hc2
    clear hc2
    go_wp2_with fail
    go_ret
    refine ⟨?_, hB4⟩
    have hq : (a + c == max a e) = true := by rw [HC2.out]; simp
    simp [hq]
  · have hnw := HNW.out hz
    refine (shrink_bad (gNum a b) (xEdge e) [x] hz _ _ _ W3 (HT.out.ext hBW) gA eA tA).mono ?_
    rw [errV_ne hz]
    rintro _ w4 ⟨rfl, hb4⟩
    have hB4 := hBW.trans (hb4.mono hBW.size)
    have XG := XG.ext hb4
    have CK := Lib.hid (check_any (gNum a b) _ w4 (num_at w4 a b HA.out HB.out))
    have g0 := XG.cell 0
    have g1 := XG.cell 1
    have g2 := XG.cell 2
    have g3 := XG.cell 3
    simp only [List.getElem?_toArray, List.getElem?_cons_succ, List.getElem?_cons_zero] at g0 g1 g2 g3
    clear gA eA tA HNW HWN hz hb4 XB XE XT
    rcases hnw with h1 | ⟨h1, h2⟩
    · rw [errV_ne h1] at CK
      clear h1
      go_wp2_with fail
      refine CK.out.mono ?_
      rintro _ w5 ⟨rfl, hb5⟩
      have hB5 := hB4.trans (hb5.mono hB4.size)
      go_wp2_with fail
      go_ret
      exact ⟨rfl, hB5⟩
    · have hr := num_range h1
      rw [h1, errV_zero] at CK
      clear h1
      have ha1 : -1073741824 ≤ a := hr.1
      have ha2 : a ≤ 1073741824 := by omega
      have hb1 : -1073741824 ≤ b := by omega
      have hb2 : b ≤ 1073741824 := hr.2.1
      have hba : b - a ≤ 1000 := hr.2.2.2
      have hba0 : 0 ≤ b - a := by omega
      clear hr
      rcases h2 with h2 | ⟨h2, h3⟩ | ⟨h2, h3, h4⟩
      · go_wp2_with fail
        refine CK.out.mono ?_
        rintro _ w5 ⟨rfl, hb5⟩
        have hB5 := hB4.trans (hb5.mono hB4.size)
        go_wp2_with fail
        go_ret
        exact ⟨rfl, hB5⟩
      · have h2' : ¬ x < 0 := by omega
        go_wp2_with fail
        refine CK.out.mono ?_
        rintro _ w5 ⟨rfl, hb5⟩
        have hB5 := hB4.trans (hb5.mono hB4.size)
        go_wp2_with fail
        go_ret
        exact ⟨rfl, hB5⟩
      · have h2' : ¬ x < 0 := by omega
        have h3' : ¬ b - a < x := by omega
        have h5 : x ≤ 1000 := by omega
        go_wp2_with fail
        refine CK.out.mono ?_
        rintro _ w5 ⟨rfl, hb5⟩
        have hB5 := hB4.trans (hb5.mono hB4.size)
        go_wp2_with fail
        go_ret
        exact ⟨rfl, hB5⟩
end Go.Proofs.YtcecpggkeaohnaaDoor
