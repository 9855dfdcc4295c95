/- The walk through rose's closure that tries. -/
import Derived.Test.YtjobgkcoblpbcaaRose1
import Derived.Test.YtjobgkcoblpbcaaPMend
namespace Go.Proofs.Ytjobgkcoblpbcaa
open Go.RowKit
set_option linter.unusedSimpArgs false
set_option linter.unusedVariables false
theorem OwnRw.keepLo {α : Type} {R : World → (Nat → Prop) → Value → α → Prop} (K : Reads R) {e : TypeId} {w w' : World} {lo : Nat} {v : Value} {B : List α} (h : OwnRw R e w lo v B) (hz : w.heap.size ≤ w'.heap.size) (hb : ∀ b, lo ≤ b → b < w.heap.size → w'.heap[b]? = w.heap[b]?) : OwnRw R e w' lo v B := by
  obtain ⟨cs, hown, hc⟩ := h
  refine ⟨cs, ⟨hown.1, ?_⟩, fun i hi => ?_⟩
  · rcases hown.2 with h2 | ⟨g, cap, cur, hv, hg, hh, r⟩
    · exact .inl h2
    · exact .inr ⟨g, cap, cur, hv, hg, (hb g hg (Array.getElem?_eq_some_iff.1 hh).1).trans hh, r⟩
  · obtain ⟨u, hu, hR⟩ := hc i hi
    exact ⟨u, hu, K.keep hR hz (fun b hs hl => ⟨hs, hb b hs.1 hl⟩)⟩
/-- From w to w' only the variable p and the array that it holds have changed. -/
structure FrO (p : Nat) (ov ov' : Value) (w w' : World) : Prop where
  os : w'.os = w.os
  tape : w'.tape = w.tape
  output : w'.output = w.output
  size : w.heap.size ≤ w'.heap.size
  blk : ∀ b, b < w.heap.size → b ≠ p → ov.ownBlock ≠ some b → w'.heap[b]? = w.heap[b]?
  new : ov'.ownBlock = ov.ownBlock ∨ ∀ b, ov'.ownBlock = some b → w.heap.size ≤ b
theorem FrO.of_below {p : Nat} {ov : Value} {w w' : World} (h : Below w.heap.size w w') : FrO p ov ov w w' := ⟨h.os, h.tape, h.output, h.size, fun b hb _ _ => h.block b hb, .inl rfl⟩
theorem FrO.refl (p : Nat) (ov : Value) (w : World) : FrO p ov ov w w := ⟨rfl, rfl, rfl, Nat.le_refl _, fun _ _ _ _ => rfl, .inl rfl⟩
theorem FrO.trans {p : Nat} {ov ov' ov'' : Value} {w w' w'' : World} (h : FrO p ov ov' w w') (k : FrO p ov' ov'' w' w'') : FrO p ov ov'' w w'' := by
  refine ⟨k.os.trans h.os, k.tape.trans h.tape, k.output.trans h.output, Nat.le_trans h.size k.size, fun b hb h1 h2 => ?_, ?_⟩
  · refine (k.blk b (Nat.lt_of_lt_of_le hb h.size) h1 ?_).trans (h.blk b hb h1 h2)
    rcases h.new with e | e
    · rw [e]; exact h2
    · intro e2; have := e b e2; omega
  · rcases k.new with e | e
    · rcases h.new with e2 | e2
      · exact .inl (e.trans e2)
      · exact .inr (fun b hb => e2 b (by rw [← e]; exact hb))
    · exact .inr (fun b hb => Nat.le_trans h.size (e b hb))
/-- The rows that were found: a variable, and what it holds. -/
structure OutAt (w : World) (lo p : Nat) (ov : Value) (B : List (List Int)) : Prop where
  blk : Blk w p #[ov] 61
  own : OwnRw IntsS 38 w lo ov B
theorem OutAt.ext {w w' : World} {lo p : Nat} {ov : Value} {B : List (List Int)} (h : OutAt w lo p ov B) (hb : Below w.heap.size w w') : OutAt w' lo p ov B := ⟨h.blk.ext hb, h.own.keep IntsS.reads hb⟩
theorem OwnInts.lo {w : World} {lo : Nat} {v : Value} {l : List Int} (h : OwnInts w lo v l) : ∀ b, v.ownBlock = some b → lo ≤ b ∧ b < w.heap.size := World.ownsRow.lt h
set_option maxHeartbeats 4000000 in
theorem try_any (g : GT) (l m : List Int) (hc : GT.check g = 0) (gv lv mv : Value) (lo p2 p3 p8 : Nat) (ov : Value) (B : List (List Int)) (w : World) (hB : B.length ≤ 1000000000) (hlo : p8 < lo) (hlw : lo ≤ w.heap.size)
    (hg : GenAt w gv g) (hgb : ∀ k a b t ad cap, gv = .agg #[.int .i64 k, .int .i64 a, .int .i64 b, .slice ad t cap] → Blk w p2 #[.int .i64 k, .int .i64 a, .int .i64 b, .slice ad t cap] 43) (hl : IntsAt w lv l) (hlb : Blk w p3 #[lv] 38) (hm : IntsAt w mv m) (ho : OutAt w lo p8 ov B) :
    Calls Try.prog 45 #[mv, .pointer (some ⟨p2, 0, none⟩), .pointer (some ⟨p3, 0, none⟩), .pointer (some ⟨p8, 0, none⟩)] w fun e w' => e = .returned .nilIface ∧ ∃ ov', OutAt w' lo p8 ov' (B ++ keep g l [m]) ∧ FrO p8 ov ov' w w' := by
  obtain ⟨gk, ga, gb, gn, gad, gcap, rfl⟩ := hg.shape
  have x2 := hgb _ _ _ _ _ _ rfl
  have C1 := Lib.hid (mend_own g m _ mv hc w hg hm)
  obtain ⟨mad, mcap, rfl, _⟩ := hm.form
  have hk : keep g l [m] = if PTape.less (mendR g m) l then [mendR g m] else [] := by rw [keep_cons, keep_nil, List.append_nil]
  rw [hk]
  have f0 := x2.cell 0
  have f1 := x2.cell 1
  have f2 := x2.cell 2
  have f3 := x2.cell 3
  simp only [List.getElem?_toArray, List.getElem?_cons_succ, List.getElem?_cons_zero] at f0 f1 f2 f3
  have hx2 := x2.lt
  have HL := Lib.hid hl
  have HO := Lib.hid ho
  have x3 := hlb
  have hx3 := x3.lt
  obtain ⟨lad, lcap, rfl, _⟩ := hl.form
  clear hg hgb hl hm hk ho hlb hc
  by_cases hls : PTape.less (mendR g m) l = true
  · rw [hls, if_pos rfl]
    have HLSW := Lib.hid hls
    clear hls
    go_enter Try.func45, Try.ntmps45
    go_wp2_with fail
    refine C1.out.mono ?_
    rintro e w1 ⟨⟨u, rfl, hu, hu64⟩, hb1⟩
    have y3 := x3.ext hb1
    have h0 := y3.cell 0
    simp only [List.getElem?_toArray, List.getElem?_cons_succ, List.getElem?_cons_zero] at h0
    have HU := Lib.hid (And.intro hu hu64)
    have HO1 := Lib.hid (HO.out.ext hb1)
    have HLS := Lib.hid (less_any u _ (mendR g m) l w1 (hu.at hu64) (HL.out.ext hb1))
    rw [HLSW.out] at HLS
    have hz1 := hb1.size
    have HB1 := Lib.hid hb1
    obtain ⟨uad, ulen, ucap, rfl⟩ : ∃ a n c, u = .slice a n c := by obtain ⟨a, c, e, _⟩ := (hu.at hu64).form; exact ⟨_, _, _, e⟩
    clear hu hu64 f0 f1 f2 f3 hb1
    go_wp2_with fail
    refine HLS.out.mono ?_
    rintro e w2 ⟨rfl, q, rfl⟩
    have HO2 : Hid (OutAt (w1.drewN q) lo p8 ov B) := HO1.out.ext (Joins.below_draws _ _ _)
    have HU2 : Hid (IntsS (w1.drewN q) (fun b => w.heap.size ≤ b) (.slice uad ulen ucap) (mendR g m)) := by
      have := (HU.out.1.kept (Joins.below_draws _ _ q)).s HU.out.2
      exact this.mono (fun b hb _ => (OwnInts.lo HU.out.1 b hb).1)
    have HF : Hid (FrO p8 ov ov w (w1.drewN q)) := FrO.of_below (HB1.out.trans (Joins.below_draws _ _ _))
    clear h0
    have z8 := HO2.out.blk
    have h0 := z8.cell 0
    simp only [List.getElem?_toArray, List.getElem?_cons_succ, List.getElem?_cons_zero] at h0
    have hu8 := z8.unfrozen 0
    have hz8 := z8.lt
    have hlt := HO.out.own.lt
    have HNF := Lib.hid hlt
    have HV : Hid (IntsS (w1.drewN q) (fun b => lo ≤ b ∧ ov.ownBlock ≠ some b) (.slice uad ulen ucap) (mendR g m)) := HU2.out.mono (fun b hb _ => ⟨by omega, fun e => by have := HNF.out b e; omega⟩)
    have hzq : w1.heap.size ≤ (w1.drewN q).heap.size := Nat.le_refl _
    clear hlt
    go_wp2_with (at_builtin; refine append_rw IntsS.reads (v := ov) (o := ⟨some 23, _, _, _, _, _⟩) (y := mendR g m) rfl _ _ 61 38 rfl Try.underlying61 info_ints rfl (HO2.out.own.keep IntsS.reads (by repeat (first | with_reducible assumption | with_reducible exact Below.refl _ _ | with_reducible apply Below.drew | (with_reducible refine Below.alloc ?_ (by first | omega | (simp only [World.size_alloc, size_setCell, size_drew, size_drewN]; omega) | (dsimp only; omega) | (simp only [World.size_alloc, size_setCell, size_drew, size_drewN]; dsimp only; omega)) _) | (with_reducible refine Below.setCell ?_ (by first | omega | (simp only [World.size_alloc, size_setCell, size_drew, size_drewN]; omega) | (dsimp only; omega) | (simp only [World.size_alloc, size_setCell, size_drew, size_drewN]; dsimp only; omega)) _)))) rfl (Blk.newAt rfl) (HV.out.keepB ((Below.refl _ _).alloc (Nat.le_refl _) _)) hB (by simp [size_drewN]; omega) ?_; intro v6 w6 h1 h2 h3; obtain ⟨vad, vlen, vcap, rfl⟩ : ∃ a n c, v6 = .slice a n c := (by obtain ⟨a, c, e, _⟩ := h1.form; exact ⟨_, _, _, e⟩); have b6 := (h2.block p8 (by simp [size_drewN]; omega) (fun e => by have := HNF.out _ e.symm; omega)).trans (z8.alloc _); have c6 := Blk.cell b6 0; have u6 := Blk.unfrozen b6 0; simp only [List.getElem?_toArray, List.getElem?_cons_succ, List.getElem?_cons_zero] at c6; have H1 := Lib.hid (And.intro h1 (And.intro h2 h3)); clear h1 h2 h3)
    have hz6 := H1.out.2.1.size
    have hz1q : (w1.drewN q).heap.size = w1.heap.size := rfl
    simp only [World.size_alloc] at hz6
    go_ret
    have hb6 := set1 b6 (.slice vad vlen vcap)
    refine ⟨rfl, _, ⟨hb6, H1.out.1.keepLo IntsS.reads (by rw [size_setCell]; exact Nat.le_refl _) (fun b hb hl => Below.heap_setCell _ _ _ _ (by dsimp only; omega))⟩, HF.out.trans ?_⟩
    refine ⟨H1.out.2.1.os, H1.out.2.1.tape, H1.out.2.1.output, by rw [size_setCell]; omega, fun b hb h1 h2 => ?_, ?_⟩
    · rw [Below.heap_setCell _ _ _ _ (by dsimp only; omega)]
      exact (H1.out.2.1.block b (by simp; omega) (fun e => h2 e.symm)).trans (Below.heap_alloc _ _ b hb)
    · rcases H1.out.2.2 with e | e
      · exact .inl e
      · refine .inr (fun b hb => ?_)
        rw [e] at hb
        have := Option.some.inj hb
        simp at this
        omega
  · have hls2 : PTape.less (mendR g m) l = false := by simpa using hls
    rw [hls2, if_neg (by simp), List.append_nil]
    have HLSW := Lib.hid hls2
    clear hls hls2
    go_enter Try.func45, Try.ntmps45
    go_wp2_with fail
    refine C1.out.mono ?_
    rintro e w1 ⟨⟨u, rfl, hu, hu64⟩, hb1⟩
    have y3 := x3.ext hb1
    have h0 := y3.cell 0
    simp only [List.getElem?_toArray, List.getElem?_cons_succ, List.getElem?_cons_zero] at h0
    have HU := Lib.hid (And.intro hu hu64)
    have HO1 := Lib.hid (HO.out.ext hb1)
    have HLS := Lib.hid (less_any u _ (mendR g m) l w1 (hu.at hu64) (HL.out.ext hb1))
    rw [HLSW.out] at HLS
    have hz1 := hb1.size
    have HB1 := Lib.hid hb1
    obtain ⟨uad, ulen, ucap, rfl⟩ : ∃ a n c, u = .slice a n c := by obtain ⟨a, c, e, _⟩ := (hu.at hu64).form; exact ⟨_, _, _, e⟩
    clear hu hu64 f0 f1 f2 f3 hb1
    go_wp2_with fail
    refine HLS.out.mono ?_
    rintro e w2 ⟨rfl, q, rfl⟩
    have HO2 : Hid (OutAt (w1.drewN q) lo p8 ov B) := HO1.out.ext (Joins.below_draws _ _ _)
    have HU2 : Hid (IntsS (w1.drewN q) (fun b => w.heap.size ≤ b) (.slice uad ulen ucap) (mendR g m)) := by
      have := (HU.out.1.kept (Joins.below_draws _ _ q)).s HU.out.2
      exact this.mono (fun b hb _ => (OwnInts.lo HU.out.1 b hb).1)
    have HF : Hid (FrO p8 ov ov w (w1.drewN q)) := FrO.of_below (HB1.out.trans (Joins.below_draws _ _ _))
    clear h0
    go_wp2_with fail
    go_ret
    exact ⟨rfl, ov, HO2.out, HF.out⟩
end Go.Proofs.Ytjobgkcoblpbcaa
