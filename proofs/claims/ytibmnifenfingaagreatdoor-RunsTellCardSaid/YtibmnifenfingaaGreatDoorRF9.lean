/- The walk through the document's answer on what is made of numbers: one of some, lists. -/
import Derived.Test.YtibmnifenfingaaGreatDoorRF8
import Derived.Deep.AppendLies
namespace Go.Proofs.YtibmnifenfingaaGreatDoor
set_option maxRecDepth 100000
open Go.RowKit
set_option linter.unusedSimpArgs false
set_option linter.unusedVariables false

theorem row_keep {w w' : World} {lo : Nat} {e : TypeId} {size : Nat} {v : Value} {n : Nat} {xs : List Value} (h : w.ownsRow lo e size v n xs) (hb : ∀ b, v.ownBlock = some b → b < w.heap.size → w'.heap[b]? = w.heap[b]?) : w'.ownsRow lo e size v n xs := by
  refine ⟨h.1, ?_⟩
  rcases h.2 with h2 | ⟨g, cap, cur, hv, hg, hh, r⟩
  · exact .inl h2
  · exact .inr ⟨g, cap, cur, hv, hg, (hb g (by rw [hv]; rfl) (Array.getElem?_eq_some_iff.1 hh).1).trans hh, r⟩
theorem row_shape {w : World} {lo : Nat} {e : TypeId} {size : Nat} {v : Value} {n : Nat} {xs : List Value} (h : w.ownsRow lo e size v n xs) : ∃ ad cap, v = .slice ad n cap := by
  rcases h.2 with ⟨rfl, h0⟩ | ⟨g, cap, cur, hv, _⟩
  · exact ⟨none, 0, by rw [h0]⟩
  · exact ⟨_, _, hv⟩
/-- One of some, by a choice. -/
def anyR (mend : Bool) (l : List Int) (s : List GT) (r : Except Int (Int × (List Int × Nat))) : Except Int (VT × (List Int × Nat)) := match r with
  | .error x => .error x
  | .ok (c, q1) => GT.playI (stC mend l) s c.toNat q1
/-- So many of one, by a choice. -/
def manyR (mend : Bool) (l : List Int) (x : GT) (r : Except Int (Int × (List Int × Nat))) : Except Int (VT × (List Int × Nat)) := match r with
  | .error e => .error e
  | .ok (c, q1) => asList (GT.playL (stC mend l) (List.replicate c.toNat x) q1)
section
variable {w : World} {a b : Int} {ad : Option Addr} {sn cap : Nat} {vl : Bool} {vn : Int} {vk vcap q : Nat} {vad : Option Addr} {l tape : List Int} {tad : Option Addr} {tcap tn : Nat} {lv : Value} {mend : Bool} {S : Nat → Prop} {s : List GT} {R : Except Int (VT × (List Int × Nat))}
set_option maxHeartbeats 8000000 in
theorem rplayed_5 (HR : Hid (R = anyR mend l s (stC mend l ((sn : Int) - 1) (tape, q)))) (hl : IntsAt w lv l) (ht : IntsS w S (.slice tad tn tcap) tape) (hs : GensAt w ad s) (hsn : Hid (sn = s.length)) (hs0 : 0 < sn) (hs1 : sn ≤ 1000) (hcap : sn ≤ cap) (hq : q + GT.costL s + 1 ≤ 1099511627776) (hn : tape.length + GT.costL s + 1 ≤ 1099511627776) (IH : Hid (PlayedIH mend l s)) : Calls Tryz.prog 66 #[.agg #[.int .i64 5, .int .i64 a, .int .i64 b, .slice ad sn cap], .agg #[.bool vl, .int .i64 vn, .slice vad vk vcap, .slice tad tn tcap, .int .i64 (q : Nat), .int .i64 0], lv, .bool mend] w (PlaysR w S R) := by
  obtain ⟨lad, lcap, rfl, _⟩ := hl.form
  have HT := Lib.hid ht
  have HL := Lib.hid hl
  have HM0 : Hid (0 ≤ (sn : Int) - 1) := by show _ ≤ _; omega
  have HM1 : Hid ((sn : Int) - 1 ≤ 1000) := by show _ ≤ _; omega
  have HSN := Lib.hid (fun (i : Nat) (h : i < sn) => (show i < s.length by have := hsn.out; omega))
  go_enter Tryz.func66, Tryz.ntmps66
  go_upto_region 1 with (fail)
  generalize hW : ((w.alloc (.cells #[.int .i64 5, .int .i64 a, .int .i64 b, .slice ad sn cap] 24)).alloc (.cells #[.bool vl, .int .i64 vn, .slice vad vk vcap, .slice tad tn tcap, .int .i64 (q : Nat), .int .i64 0] 110)).alloc (.cells #[.bool false, .int .i64 0, .slice none 0 0, .slice none 0 0, .int .i64 0, .int .i64 0] 110) = W0
  have hB0 : Below w.heap.size w W0 := by rw [← hW]; repeat (first | with_reducible assumption | with_reducible exact Below.refl _ _ | with_reducible apply Below.drew | (with_reducible refine Below.alloc ?_ (by first | omega | (simp only [zA, zS, zD, zN]; omega) | (dsimp only; omega) | (simp only [zA, zS, zD, zN]; dsimp only; omega)) _) | (with_reducible refine Below.setCell ?_ (by first | omega | (simp only [zA, zS, zD, zN]; omega) | (dsimp only; omega) | (simp only [zA, zS, zD, zN]; dsimp only; omega)) _) | (with_reducible apply below_drewN))
  have x0 : Blk W0 w.heap.size #[.int .i64 5, .int .i64 a, .int .i64 b, .slice ad sn cap] 24 := by rw [← hW]; exact ((Blk.new w #[.int .i64 5, .int .i64 a, .int .i64 b, .slice ad sn cap] 24).alloc _).alloc _
  have x1 : Blk W0 (w.heap.size + 1) #[.bool vl, .int .i64 vn, .slice vad vk vcap, .slice tad tn tcap, .int .i64 (q : Nat), .int .i64 0] 110 := by rw [← hW]; exact (show Blk (((w.alloc (.cells #[.int .i64 5, .int .i64 a, .int .i64 b, .slice ad sn cap] 24)).alloc (.cells #[.bool vl, .int .i64 vn, .slice vad vk vcap, .slice tad tn tcap, .int .i64 (q : Nat), .int .i64 0] 110))) (w.heap.size + 1) #[.bool vl, .int .i64 vn, .slice vad vk vcap, .slice tad tn tcap, .int .i64 (q : Nat), .int .i64 0] 110 by simpa using Blk.new (w.alloc (.cells #[.int .i64 5, .int .i64 a, .int .i64 b, .slice ad sn cap] 24)) #[.bool vl, .int .i64 vn, .slice vad vk vcap, .slice tad tn tcap, .int .i64 (q : Nat), .int .i64 0] 110).alloc _
  have x2 : Blk W0 (w.heap.size + 2) #[.bool false, .int .i64 0, .slice none 0 0, .slice none 0 0, .int .i64 0, .int .i64 0] 110 := by rw [← hW]; simpa using Blk.new ((w.alloc (.cells #[.int .i64 5, .int .i64 a, .int .i64 b, .slice ad sn cap] 24)).alloc (.cells #[.bool vl, .int .i64 vn, .slice vad vk vcap, .slice tad tn tcap, .int .i64 (q : Nat), .int .i64 0] 110)) #[.bool false, .int .i64 0, .slice none 0 0, .slice none 0 0, .int .i64 0, .int .i64 0] 110
  have hz0 : w.heap.size + 3 ≤ W0.heap.size := by have := x2.lt; omega
  clear hW
  have g0 := x0.cell 0
  have g1 := x0.cell 1
  have g2 := x0.cell 2
  have g3 := x0.cell 3
  simp only [List.getElem?_toArray, List.getElem?_cons_succ, List.getElem?_cons_zero] at g0 g1 g2 g3
  have f0 := x1.cell 0
  have f1 := x1.cell 1
  have f2 := x1.cell 2
  have f3 := x1.cell 3
  have f4 := x1.cell 4
  have f5 := x1.cell 5
  simp only [List.getElem?_toArray, List.getElem?_cons_succ, List.getElem?_cons_zero] at f0 f1 f2 f3 f4 f5
  go_wp2_with fail
  refine (rchoice_any mend (hl.ext hB0) (ht.at.ext hB0) HM0.out HM1.out (by omega) (by omega)).mono ?_
  rintro e W1 he
  clear f0 f1 f2 f3 f4 f5 g0 g1 g2 g3
  generalize hst : stC mend l ((sn : Int) - 1) (tape, q) = r at *
  have HST := Lib.hid hst
  clear hst hl ht
  cases r with
  | error x =>
    obtain ⟨rfl, hb⟩ := he
    have hxn := stC_err HST.out
    have HRX := Lib.hid HR.out
    have hB1 : Below w.heap.size w W1 := hB0.trans (hb.mono hB0.size)
    have y0 := x0.ext hb
    have y1 := x1.ext hb
    have y2 := x2.ext hb
    have hzb := hb.size
    have f0 := y1.cell 0
    have f1 := y1.cell 1
    have f2 := y1.cell 2
    have f3 := y1.cell 3
    have f4 := y1.cell 4
    have f5 := y1.cell 5
    simp only [List.getElem?_toArray, List.getElem?_cons_succ, List.getElem?_cons_zero] at f0 f1 f2 f3 f4 f5
    have u0 := y1.unfrozen 0
    have u1 := y1.unfrozen 1
    have u2 := y1.unfrozen 2
    have u3 := y1.unfrozen 3
    have u4 := y1.unfrozen 4
    have u5 := y1.unfrozen 5
    go_upto_region 13 with (fail)
    clear f0 f1 f2 f3 f4 f5 u0 u1 u2 u3 u4 u5
    generalize hW : ((((((W1.setCell ⟨w.heap.size + 1, 0, none⟩ (.bool vl)).setCell ⟨w.heap.size + 1, 1, none⟩ (.int .i64 vn)).setCell ⟨w.heap.size + 1, 2, none⟩ (.slice vad vk vcap)).setCell ⟨w.heap.size + 1, 3, none⟩ (.slice tad tn tcap)).setCell ⟨w.heap.size + 1, 4, none⟩ (.int .i64 (q : Nat))).setCell ⟨w.heap.size + 1, 5, none⟩ (.int .i64 x)) = W2
    have hB2 : Below w.heap.size w W2 := by rw [← hW]; exact below_st6 hB1 (by omega) _ _ _ _ _ _
    have z1 : Blk W2 (w.heap.size + 1) #[.bool vl, .int .i64 vn, .slice vad vk vcap, .slice tad tn tcap, .int .i64 (q : Nat), .int .i64 x] 110 := by rw [← hW]; exact set6 y1 _ _ _ _ _ _
    have fr2 : ∀ x, x ≠ w.heap.size + 1 → W2.heap[x]? = W1.heap[x]? := by intro x hx; rw [← hW]; exact heap_st6 _ _ hx _ _ _ _ _ _
    have z2 : Blk W2 (w.heap.size + 2) #[.bool false, .int .i64 0, .slice none 0 0, .slice none 0 0, .int .i64 0, .int .i64 0] 110 := y2.same (fr2 _ (by omega))
    have z0 : Blk W2 w.heap.size #[.int .i64 5, .int .i64 a, .int .i64 b, .slice ad sn cap] 24 := y0.same (fr2 _ (by omega))
    have hzW2 : W2.heap.size = W1.heap.size := by rw [← hW]; simp only [size_setCell]
    clear hW
    obtain ⟨bl, off, rfl, hbl, hcg⟩ := hs.at' (by have := hsn.out; omega)
    obtain ⟨k2, a2, b2, t2, ad2, cap2, c0, c1, c2, c3, hg2⟩ := hcg 0 (HSN.out 0 hs0)
    clear hcg
    simp only [Nat.zero_mul, Nat.add_zero, Nat.zero_add] at c0 c1 c2 c3
    have p0 : (0 : Int) < (sn : Int) := by omega
    clear HT HL IH
    have e0 := (hB2.cell (p := ⟨bl, _, none⟩) hbl).trans c0
    have e1 := (hB2.cell (p := ⟨bl, _, none⟩) hbl).trans c1
    have e2 := (hB2.cell (p := ⟨bl, _, none⟩) hbl).trans c2
    have e3 := (hB2.cell (p := ⟨bl, _, none⟩) hbl).trans c3
    have f0 := z1.cell 0
    have f1 := z1.cell 1
    have f2 := z1.cell 2
    have f3 := z1.cell 3
    have f4 := z1.cell 4
    have f5 := z1.cell 5
    simp only [List.getElem?_toArray, List.getElem?_cons_succ, List.getElem?_cons_zero] at f0 f1 f2 f3 f4 f5
    have g0 := z0.cell 0
    have g1 := z0.cell 1
    have g2 := z0.cell 2
    have g3 := z0.cell 3
    simp only [List.getElem?_toArray, List.getElem?_cons_succ, List.getElem?_cons_zero] at g0 g1 g2 g3
    go_wp2_with fail
    refine region_mov (S := fun w' => w'.cell? ⟨w.heap.size, 3, none⟩ = some (.slice (some ⟨bl, off, none⟩) sn cap) ∧ w'.cell? ⟨bl, off, none⟩ = some (.int .i64 k2) ∧ w'.cell? ⟨bl, off + 1, none⟩ = some (.int .i64 a2) ∧ w'.cell? ⟨bl, off + 2, none⟩ = some (.int .i64 b2) ∧ w'.cell? ⟨bl, off + 3, none⟩ = some (.slice ad2 t2 cap2) ∧ w'.cell? ⟨w.heap.size + 1, 0, none⟩ = some (.bool vl) ∧ w'.cell? ⟨w.heap.size + 1, 1, none⟩ = some (.int .i64 vn) ∧ w'.cell? ⟨w.heap.size + 1, 2, none⟩ = some (.slice vad vk vcap) ∧ w'.cell? ⟨w.heap.size + 1, 3, none⟩ = some (.slice tad tn tcap) ∧ w'.cell? ⟨w.heap.size + 1, 4, none⟩ = some (.int .i64 (q : Nat)) ∧ w'.cell? ⟨w.heap.size + 1, 5, none⟩ = some (.int .i64 x)) (n := 9) (ms := [(true, 0), (true, 1), (true, 2), (true, 3), (true, 4), (true, 5), (true, 6), (true, 7), (false, 8), (false, 9)]) (hm := by kernel_rfl) (hB := by kernel_rfl) (hQ := fun c a d v w h => by cases d <;> exact h) ?_
    have HS0 : Hid ((fun w' => w'.cell? ⟨w.heap.size, 3, none⟩ = some (.slice (some ⟨bl, off, none⟩) sn cap) ∧ w'.cell? ⟨bl, off, none⟩ = some (.int .i64 k2) ∧ w'.cell? ⟨bl, off + 1, none⟩ = some (.int .i64 a2) ∧ w'.cell? ⟨bl, off + 2, none⟩ = some (.int .i64 b2) ∧ w'.cell? ⟨bl, off + 3, none⟩ = some (.slice ad2 t2 cap2) ∧ w'.cell? ⟨w.heap.size + 1, 0, none⟩ = some (.bool vl) ∧ w'.cell? ⟨w.heap.size + 1, 1, none⟩ = some (.int .i64 vn) ∧ w'.cell? ⟨w.heap.size + 1, 2, none⟩ = some (.slice vad vk vcap) ∧ w'.cell? ⟨w.heap.size + 1, 3, none⟩ = some (.slice tad tn tcap) ∧ w'.cell? ⟨w.heap.size + 1, 4, none⟩ = some (.int .i64 (q : Nat)) ∧ w'.cell? ⟨w.heap.size + 1, 5, none⟩ = some (.int .i64 x)) W2.drew) := ⟨g3, e0, e1, e2, e3, f0, f1, f2, f3, f4, f5⟩
    iterate 8
      rw [mov_take]
      simp only [List.getElem?_toArray, List.getElem?_cons_succ, List.getElem?_cons_zero]
      refine ⟨?_, .inl ⟨by rfl, ?_⟩, HS0.out, ?_⟩
      rotate_left
      · rintro w' ⟨s0, s1, s2, s3, s4, s5, s6, s7, s8, s9, s10⟩
        go_simp
        rfl
      simp only [Act.put, List.setIfInBounds_toArray, List.set_cons_zero, List.set_cons_succ]
    have hBd : Below w.heap.size w W2.drew := hB2.drew
    have v0 : Blk W2.drew w.heap.size #[.int .i64 5, .int .i64 a, .int .i64 b, .slice (some ⟨bl, off, none⟩) sn cap] 24 := z0
    have v1 : Blk W2.drew (w.heap.size + 1) #[.bool vl, .int .i64 vn, .slice vad vk vcap, .slice tad tn tcap, .int .i64 (q : Nat), .int .i64 x] 110 := z1
    have v2 : Blk W2.drew (w.heap.size + 2) #[.bool false, .int .i64 0, .slice none 0 0, .slice none 0 0, .int .i64 0, .int .i64 0] 110 := z2
    have hzd : W2.drew.heap.size = W2.heap.size := rfl
    clear HS0 e0 e1 e2 e3 f0 f1 f2 f3 f4 f5 g0 g1 g2 g3 z0 z1 z2
    generalize W2.drew = WD at *
    have HS : Hid (∀ W', Below WD.heap.size WD W' → (fun w' => w'.cell? ⟨w.heap.size, 3, none⟩ = some (.slice (some ⟨bl, off, none⟩) sn cap) ∧ w'.cell? ⟨bl, off, none⟩ = some (.int .i64 k2) ∧ w'.cell? ⟨bl, off + 1, none⟩ = some (.int .i64 a2) ∧ w'.cell? ⟨bl, off + 2, none⟩ = some (.int .i64 b2) ∧ w'.cell? ⟨bl, off + 3, none⟩ = some (.slice ad2 t2 cap2) ∧ w'.cell? ⟨w.heap.size + 1, 0, none⟩ = some (.bool vl) ∧ w'.cell? ⟨w.heap.size + 1, 1, none⟩ = some (.int .i64 vn) ∧ w'.cell? ⟨w.heap.size + 1, 2, none⟩ = some (.slice vad vk vcap) ∧ w'.cell? ⟨w.heap.size + 1, 3, none⟩ = some (.slice tad tn tcap) ∧ w'.cell? ⟨w.heap.size + 1, 4, none⟩ = some (.int .i64 (q : Nat)) ∧ w'.cell? ⟨w.heap.size + 1, 5, none⟩ = some (.int .i64 x)) W') := fun W' h => by
      have hw' := hBd.trans (h.mono hBd.size)
      exact ⟨(v0.ext h).cell 3, (hw'.cell (p := ⟨bl, _, none⟩) hbl).trans c0, (hw'.cell (p := ⟨bl, _, none⟩) hbl).trans c1, (hw'.cell (p := ⟨bl, _, none⟩) hbl).trans c2, (hw'.cell (p := ⟨bl, _, none⟩) hbl).trans c3,
        (v1.ext h).cell 0, (v1.ext h).cell 1, (v1.ext h).cell 2, (v1.ext h).cell 3, (v1.ext h).cell 4, (v1.ext h).cell 5⟩
    rw [mov_step]
    simp only [List.getElem?_toArray, List.getElem?_cons_succ, List.getElem?_cons_zero]
    go_wp2_with fail
    refine (rplayed_err (w := WD) hxn ⟨_, _, _, rfl⟩).mono ?_
    rintro e V ⟨rfl, hb⟩
    have hS2 := HS.out V hb
    have HS2 := Lib.hid hS2
    clear hS2
    have n2 := v2.ext hb
    have hBV : Below w.heap.size w V := hBd.trans (hb.mono hBd.size)
    have e0 := n2.cell 0
    have e1 := n2.cell 1
    have e2 := n2.cell 2
    have e3 := n2.cell 3
    have e4 := n2.cell 4
    have e5 := n2.cell 5
    simp only [List.getElem?_toArray, List.getElem?_cons_succ, List.getElem?_cons_zero] at e0 e1 e2 e3 e4 e5
    have u0 := n2.unfrozen 0
    have u1 := n2.unfrozen 1
    have u2 := n2.unfrozen 2
    have u3 := n2.unfrozen 3
    have u4 := n2.unfrozen 4
    have u5 := n2.unfrozen 5
    go_wp2_with fail
    refine And.intro (fun _ => HS2.out) ?_
    rw [mov_step]
    simp only [List.getElem?_toArray, List.getElem?_cons_succ, List.getElem?_cons_zero]
    go_wp2_with fail
    refine And.intro (fun h => absurd h (by omega)) ?_
    rw [wpMov]
    go_wp2_with fail
    refine bodyPost_ret (v := .agg #[.bool vl, .int .i64 vn, .slice vad vk vcap, .slice tad tn tcap, .int .i64 (q : Nat), .int .i64 x]) (by simp [results, Tryz.results66, go_sem, e0, e1, e2, e3, e4, e5, u0, u1, u2, u3, u4, u5]) rfl ?_
    have hBF : Below w.heap.size w ((((((V.setCell ⟨w.heap.size + 2, 0, none⟩ (.bool vl)).setCell ⟨w.heap.size + 2, 1, none⟩ (.int .i64 vn)).setCell ⟨w.heap.size + 2, 2, none⟩ (.slice vad vk vcap)).setCell ⟨w.heap.size + 2, 3, none⟩ (.slice tad tn tcap)).setCell ⟨w.heap.size + 2, 4, none⟩ (.int .i64 (q : Nat))).setCell ⟨w.heap.size + 2, 5, none⟩ (.int .i64 x)) := below_st6 hBV (by omega) _ _ _ _ _ _
    have hKF : ∀ x, x ≠ w.heap.size + 2 → ((((((V.setCell ⟨w.heap.size + 2, 0, none⟩ (.bool vl)).setCell ⟨w.heap.size + 2, 1, none⟩ (.int .i64 vn)).setCell ⟨w.heap.size + 2, 2, none⟩ (.slice vad vk vcap)).setCell ⟨w.heap.size + 2, 3, none⟩ (.slice tad tn tcap)).setCell ⟨w.heap.size + 2, 4, none⟩ (.int .i64 (q : Nat))).setCell ⟨w.heap.size + 2, 5, none⟩ (.int .i64 x)).heap[x]? = V.heap[x]? := fun x hx => heap_st6 _ _ hx _ _ _ _ _ _
    have hZF : ((((((V.setCell ⟨w.heap.size + 2, 0, none⟩ (.bool vl)).setCell ⟨w.heap.size + 2, 1, none⟩ (.int .i64 vn)).setCell ⟨w.heap.size + 2, 2, none⟩ (.slice vad vk vcap)).setCell ⟨w.heap.size + 2, 3, none⟩ (.slice tad tn tcap)).setCell ⟨w.heap.size + 2, 4, none⟩ (.int .i64 (q : Nat))).setCell ⟨w.heap.size + 2, 5, none⟩ (.int .i64 x)).heap.size = V.heap.size := by simp only [size_setCell]
    rw [HRX.out]
    exact ⟨⟨_, rfl, hxn, _, _, _, _, _, _, _, _, _, rfl⟩, hBF⟩
  | ok r =>
    obtain ⟨c, tape1, q1⟩ := r
    obtain ⟨⟨tv', rfl, hS1⟩, hb⟩ := he
    obtain ⟨hc0, hc1, hq1⟩ := stC_bd HST.out
    have HRX := Lib.hid HR.out
    obtain ⟨h64, ad1, cap1, rfl, hS1'⟩ := hS1
    have HS1 : Hid (IntsS W1 (fun b => W0.heap.size ≤ b) (.slice ad1 tape1.length cap1) tape1) := ⟨h64, ad1, cap1, rfl, hS1'⟩
    clear h64 hS1'
    have hB1 : Below w.heap.size w W1 := hB0.trans (hb.mono hB0.size)
    have y0 := x0.ext hb
    have y1 := x1.ext hb
    have y2 := x2.ext hb
    have hzb := hb.size
    obtain ⟨cn, rfl⟩ := Int.eq_ofNat_of_zero_le hc0
    have hcn : cn < sn := by omega
    have hqt : tape1 = tape ++ [(cn : Int)] ∧ q1 = q + 1 := by simpa using hq1
    have hqb : q1 = q + 1 := hqt.2
    have htb : tape1.length = tape.length + 1 := by rw [hqt.1]; simp
    have HQB := Lib.hid hqb
    have HTB := Lib.hid htb
    clear hqt hqb htb hq1
    have f0 := y1.cell 0
    have f1 := y1.cell 1
    have f2 := y1.cell 2
    have f3 := y1.cell 3
    have f4 := y1.cell 4
    have f5 := y1.cell 5
    simp only [List.getElem?_toArray, List.getElem?_cons_succ, List.getElem?_cons_zero] at f0 f1 f2 f3 f4 f5
    have u0 := y1.unfrozen 0
    have u1 := y1.unfrozen 1
    have u2 := y1.unfrozen 2
    have u3 := y1.unfrozen 3
    have u4 := y1.unfrozen 4
    have u5 := y1.unfrozen 5
    go_upto_region 13 with (fail)
    clear f0 f1 f2 f3 f4 f5 u0 u1 u2 u3 u4 u5
    generalize hW : ((((((W1.setCell ⟨w.heap.size + 1, 0, none⟩ (.bool vl)).setCell ⟨w.heap.size + 1, 1, none⟩ (.int .i64 vn)).setCell ⟨w.heap.size + 1, 2, none⟩ (.slice vad vk vcap)).setCell ⟨w.heap.size + 1, 3, none⟩ (.slice ad1 (tape1.length) cap1)).setCell ⟨w.heap.size + 1, 4, none⟩ (.int .i64 (q1 : Nat))).setCell ⟨w.heap.size + 1, 5, none⟩ (.int .i64 0)) = W2
    have hB2 : Below w.heap.size w W2 := by rw [← hW]; exact below_st6 hB1 (by omega) _ _ _ _ _ _
    have z1 : Blk W2 (w.heap.size + 1) #[.bool vl, .int .i64 vn, .slice vad vk vcap, .slice ad1 (tape1.length) cap1, .int .i64 (q1 : Nat), .int .i64 0] 110 := by rw [← hW]; exact set6 y1 _ _ _ _ _ _
    have fr2 : ∀ x, x ≠ w.heap.size + 1 → W2.heap[x]? = W1.heap[x]? := by intro x hx; rw [← hW]; exact heap_st6 _ _ hx _ _ _ _ _ _
    have z2 : Blk W2 (w.heap.size + 2) #[.bool false, .int .i64 0, .slice none 0 0, .slice none 0 0, .int .i64 0, .int .i64 0] 110 := y2.same (fr2 _ (by omega))
    have z0 : Blk W2 w.heap.size #[.int .i64 5, .int .i64 a, .int .i64 b, .slice ad sn cap] 24 := y0.same (fr2 _ (by omega))
    have hzW2 : W2.heap.size = W1.heap.size := by rw [← hW]; simp only [size_setCell]
    clear hW
    obtain ⟨bl, off, rfl, hbl, hcg⟩ := hs.at' (by have := hsn.out; omega)
    obtain ⟨k2, a2, b2, t2, ad2, cap2, c0, c1, c2, c3, hg2⟩ := hcg cn (HSN.out cn hcn)
    clear hcg
    have p0 : (0 : Int) ≤ (cn : Int) := by omega
    have p1 : (cn : Int) < (sn : Int) := by omega
    have HRY : Hid (R = GT.play (stC mend l) (s[cn]'(HSN.out cn hcn)) (tape1, q1)) := by
      show _ = _
      rw [HRX.out]
      show GT.playI (stC mend l) s (cn : Int).toNat _ = _
      rw [Int.toNat_natCast, playI_get (stC mend l) s cn (HSN.out cn hcn)]
    have hcl := GT.cost_le s cn (HSN.out cn hcn)
    have CK : Hid (∀ W, Below W2.heap.size W2 W → Calls Tryz.prog 66 #[.agg #[.int .i64 k2, .int .i64 a2, .int .i64 b2, .slice ad2 t2 cap2], .agg #[.bool vl, .int .i64 vn, .slice vad vk vcap, .slice ad1 (tape1.length) cap1, .int .i64 (q1 : Nat), .int .i64 0], .slice lad l.length lcap, .bool mend] W (PlaysR W (fun x => W0.heap.size ≤ x) R)) := fun W hW => by
      have hw2 : Below w.heap.size w W := hB2.trans (hW.mono hB2.size)
      rw [HRY.out]
      refine IH.out _ (List.getElem_mem _) _ _ _ _ _ _ _ _ _ _ _ W (hg2.ext hw2) (HL.out.ext hw2) ?_ (by have := HQB.out; omega) (by have := HTB.out; omega)
      exact IntsS.reads.keep HS1.out (by have := hW.size; omega) (fun x hx hlt => ⟨hx, (hW.block x (by omega)).trans (fr2 x (by omega))⟩)
    clear HS1 hg2 IH HL HT HRY
    have e0 := (hB2.cell (p := ⟨bl, _, none⟩) hbl).trans c0
    have e1 := (hB2.cell (p := ⟨bl, _, none⟩) hbl).trans c1
    have e2 := (hB2.cell (p := ⟨bl, _, none⟩) hbl).trans c2
    have e3 := (hB2.cell (p := ⟨bl, _, none⟩) hbl).trans c3
    have f0 := z1.cell 0
    have f1 := z1.cell 1
    have f2 := z1.cell 2
    have f3 := z1.cell 3
    have f4 := z1.cell 4
    have f5 := z1.cell 5
    simp only [List.getElem?_toArray, List.getElem?_cons_succ, List.getElem?_cons_zero] at f0 f1 f2 f3 f4 f5
    have g0 := z0.cell 0
    have g1 := z0.cell 1
    have g2 := z0.cell 2
    have g3 := z0.cell 3
    simp only [List.getElem?_toArray, List.getElem?_cons_succ, List.getElem?_cons_zero] at g0 g1 g2 g3
    go_wp2_with fail
    refine region_mov (S := fun w' => w'.cell? ⟨w.heap.size, 3, none⟩ = some (.slice (some ⟨bl, off, none⟩) sn cap) ∧ w'.cell? ⟨bl, off + cn * 4, none⟩ = some (.int .i64 k2) ∧ w'.cell? ⟨bl, off + cn * 4 + 1, none⟩ = some (.int .i64 a2) ∧ w'.cell? ⟨bl, off + cn * 4 + 2, none⟩ = some (.int .i64 b2) ∧ w'.cell? ⟨bl, off + cn * 4 + 3, none⟩ = some (.slice ad2 t2 cap2) ∧ w'.cell? ⟨w.heap.size + 1, 0, none⟩ = some (.bool vl) ∧ w'.cell? ⟨w.heap.size + 1, 1, none⟩ = some (.int .i64 vn) ∧ w'.cell? ⟨w.heap.size + 1, 2, none⟩ = some (.slice vad vk vcap) ∧ w'.cell? ⟨w.heap.size + 1, 3, none⟩ = some (.slice ad1 (tape1.length) cap1) ∧ w'.cell? ⟨w.heap.size + 1, 4, none⟩ = some (.int .i64 (q1 : Nat)) ∧ w'.cell? ⟨w.heap.size + 1, 5, none⟩ = some (.int .i64 0)) (n := 9) (ms := [(true, 0), (true, 1), (true, 2), (true, 3), (true, 4), (true, 5), (true, 6), (true, 7), (false, 8), (false, 9)]) (hm := by kernel_rfl) (hB := by kernel_rfl) (hQ := fun c a d v w h => by cases d <;> exact h) ?_
    have HS0 : Hid ((fun w' => w'.cell? ⟨w.heap.size, 3, none⟩ = some (.slice (some ⟨bl, off, none⟩) sn cap) ∧ w'.cell? ⟨bl, off + cn * 4, none⟩ = some (.int .i64 k2) ∧ w'.cell? ⟨bl, off + cn * 4 + 1, none⟩ = some (.int .i64 a2) ∧ w'.cell? ⟨bl, off + cn * 4 + 2, none⟩ = some (.int .i64 b2) ∧ w'.cell? ⟨bl, off + cn * 4 + 3, none⟩ = some (.slice ad2 t2 cap2) ∧ w'.cell? ⟨w.heap.size + 1, 0, none⟩ = some (.bool vl) ∧ w'.cell? ⟨w.heap.size + 1, 1, none⟩ = some (.int .i64 vn) ∧ w'.cell? ⟨w.heap.size + 1, 2, none⟩ = some (.slice vad vk vcap) ∧ w'.cell? ⟨w.heap.size + 1, 3, none⟩ = some (.slice ad1 (tape1.length) cap1) ∧ w'.cell? ⟨w.heap.size + 1, 4, none⟩ = some (.int .i64 (q1 : Nat)) ∧ w'.cell? ⟨w.heap.size + 1, 5, none⟩ = some (.int .i64 0)) W2.drew) := ⟨g3, e0, e1, e2, e3, f0, f1, f2, f3, f4, f5⟩
    iterate 8
      rw [mov_take]
      simp only [List.getElem?_toArray, List.getElem?_cons_succ, List.getElem?_cons_zero]
      refine ⟨?_, .inl ⟨by rfl, ?_⟩, HS0.out, ?_⟩
      rotate_left
      · rintro w' ⟨s0, s1, s2, s3, s4, s5, s6, s7, s8, s9, s10⟩
        go_simp
        rfl
      simp only [Act.put, List.setIfInBounds_toArray, List.set_cons_zero, List.set_cons_succ]
    have hBd : Below w.heap.size w W2.drew := hB2.drew
    have v0 : Blk W2.drew w.heap.size #[.int .i64 5, .int .i64 a, .int .i64 b, .slice (some ⟨bl, off, none⟩) sn cap] 24 := z0
    have v1 : Blk W2.drew (w.heap.size + 1) #[.bool vl, .int .i64 vn, .slice vad vk vcap, .slice ad1 (tape1.length) cap1, .int .i64 (q1 : Nat), .int .i64 0] 110 := z1
    have v2 : Blk W2.drew (w.heap.size + 2) #[.bool false, .int .i64 0, .slice none 0 0, .slice none 0 0, .int .i64 0, .int .i64 0] 110 := z2
    have hzd : W2.drew.heap.size = W2.heap.size := rfl
    have hWD : Below W2.heap.size W2 W2.drew := (Below.refl _ _).drew
    clear HS0 e0 e1 e2 e3 f0 f1 f2 f3 f4 f5 g0 g1 g2 g3 z0 z1 z2
    generalize W2.drew = WD at *
    clear fr2
    have HS : Hid (∀ W', Below WD.heap.size WD W' → (fun w' => w'.cell? ⟨w.heap.size, 3, none⟩ = some (.slice (some ⟨bl, off, none⟩) sn cap) ∧ w'.cell? ⟨bl, off + cn * 4, none⟩ = some (.int .i64 k2) ∧ w'.cell? ⟨bl, off + cn * 4 + 1, none⟩ = some (.int .i64 a2) ∧ w'.cell? ⟨bl, off + cn * 4 + 2, none⟩ = some (.int .i64 b2) ∧ w'.cell? ⟨bl, off + cn * 4 + 3, none⟩ = some (.slice ad2 t2 cap2) ∧ w'.cell? ⟨w.heap.size + 1, 0, none⟩ = some (.bool vl) ∧ w'.cell? ⟨w.heap.size + 1, 1, none⟩ = some (.int .i64 vn) ∧ w'.cell? ⟨w.heap.size + 1, 2, none⟩ = some (.slice vad vk vcap) ∧ w'.cell? ⟨w.heap.size + 1, 3, none⟩ = some (.slice ad1 (tape1.length) cap1) ∧ w'.cell? ⟨w.heap.size + 1, 4, none⟩ = some (.int .i64 (q1 : Nat)) ∧ w'.cell? ⟨w.heap.size + 1, 5, none⟩ = some (.int .i64 0)) W') := fun W' h => by
      have hw' := hBd.trans (h.mono hBd.size)
      exact ⟨(v0.ext h).cell 3, (hw'.cell (p := ⟨bl, _, none⟩) hbl).trans c0, (hw'.cell (p := ⟨bl, _, none⟩) hbl).trans c1, (hw'.cell (p := ⟨bl, _, none⟩) hbl).trans c2, (hw'.cell (p := ⟨bl, _, none⟩) hbl).trans c3,
        (v1.ext h).cell 0, (v1.ext h).cell 1, (v1.ext h).cell 2, (v1.ext h).cell 3, (v1.ext h).cell 4, (v1.ext h).cell 5⟩
    rw [mov_step]
    simp only [List.getElem?_toArray, List.getElem?_cons_succ, List.getElem?_cons_zero]
    go_wp2_with fail
    refine (CK.out WD hWD).mono ?_
    rintro e V he
    obtain ⟨⟨pv, rfl, hP⟩, hb⟩ := he
    obtain ⟨l5, n5, ad5, k5, cap5, tad5, tn5, tc5, at5, x5, rfl⟩ := hP.shape
    have HP := Lib.hid hP
    clear hP
    have hS2 := HS.out V hb
    have HS2 := Lib.hid hS2
    clear hS2
    have n2 := v2.ext hb
    have hBV : Below w.heap.size w V := hBd.trans (hb.mono hBd.size)
    have e0 := n2.cell 0
    have e1 := n2.cell 1
    have e2 := n2.cell 2
    have e3 := n2.cell 3
    have e4 := n2.cell 4
    have e5 := n2.cell 5
    simp only [List.getElem?_toArray, List.getElem?_cons_succ, List.getElem?_cons_zero] at e0 e1 e2 e3 e4 e5
    have u0 := n2.unfrozen 0
    have u1 := n2.unfrozen 1
    have u2 := n2.unfrozen 2
    have u3 := n2.unfrozen 3
    have u4 := n2.unfrozen 4
    have u5 := n2.unfrozen 5
    go_wp2_with fail
    refine And.intro (fun _ => HS2.out) ?_
    rw [mov_step]
    simp only [List.getElem?_toArray, List.getElem?_cons_succ, List.getElem?_cons_zero]
    go_wp2_with fail
    refine And.intro (fun h => absurd h (by omega)) ?_
    rw [wpMov]
    go_wp2_with fail
    refine bodyPost_ret (v := .agg #[.bool l5, .int .i64 n5, .slice ad5 k5 cap5, .slice tad5 tn5 tc5, .int .i64 at5, .int .i64 x5]) (by simp [results, Tryz.results66, go_sem, e0, e1, e2, e3, e4, e5, u0, u1, u2, u3, u4, u5]) rfl ?_
    have hBF : Below w.heap.size w ((((((V.setCell ⟨w.heap.size + 2, 0, none⟩ (.bool l5)).setCell ⟨w.heap.size + 2, 1, none⟩ (.int .i64 n5)).setCell ⟨w.heap.size + 2, 2, none⟩ (.slice ad5 k5 cap5)).setCell ⟨w.heap.size + 2, 3, none⟩ (.slice tad5 tn5 tc5)).setCell ⟨w.heap.size + 2, 4, none⟩ (.int .i64 at5)).setCell ⟨w.heap.size + 2, 5, none⟩ (.int .i64 x5)) := below_st6 hBV (by omega) _ _ _ _ _ _
    have hKF : ∀ x, x ≠ w.heap.size + 2 → ((((((V.setCell ⟨w.heap.size + 2, 0, none⟩ (.bool l5)).setCell ⟨w.heap.size + 2, 1, none⟩ (.int .i64 n5)).setCell ⟨w.heap.size + 2, 2, none⟩ (.slice ad5 k5 cap5)).setCell ⟨w.heap.size + 2, 3, none⟩ (.slice tad5 tn5 tc5)).setCell ⟨w.heap.size + 2, 4, none⟩ (.int .i64 at5)).setCell ⟨w.heap.size + 2, 5, none⟩ (.int .i64 x5)).heap[x]? = V.heap[x]? := fun x hx => heap_st6 _ _ hx _ _ _ _ _ _
    have hZF : ((((((V.setCell ⟨w.heap.size + 2, 0, none⟩ (.bool l5)).setCell ⟨w.heap.size + 2, 1, none⟩ (.int .i64 n5)).setCell ⟨w.heap.size + 2, 2, none⟩ (.slice ad5 k5 cap5)).setCell ⟨w.heap.size + 2, 3, none⟩ (.slice tad5 tn5 tc5)).setCell ⟨w.heap.size + 2, 4, none⟩ (.int .i64 at5)).setCell ⟨w.heap.size + 2, 5, none⟩ (.int .i64 x5)).heap.size = V.heap.size := by simp only [size_setCell]
    refine ⟨⟨_, rfl, HP.out.keep (by rw [hZF]; exact Nat.le_refl _) (fun x hx hl => ⟨by omega, hKF x (by omega)⟩) (fun x hx hl => ⟨.inr (by rcases hx with hx | hx <;> omega), hKF x (by rcases hx with hx | hx <;> omega)⟩)⟩, hBF⟩
end
end Go.Proofs.YtibmnifenfingaaGreatDoor
