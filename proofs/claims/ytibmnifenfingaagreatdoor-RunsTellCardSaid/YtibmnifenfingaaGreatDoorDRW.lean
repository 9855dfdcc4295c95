/- The walk through Draw: its choice, itself. The walk through Draw. Plain laws of drawing. -/
import Derived.Test.YtibmnifenfingaaGreatDoorPLY
import Derived.Test.YtibmnifenfingaaGreatDoorRng
import Derived.Test.YtibmnifenfingaaGreatDoorPMV
import Derived.Deep.DeepCutAuto
namespace Go.Proofs.YtibmnifenfingaaGreatDoor
set_option maxRecDepth 100000
open Go.RowKit
set_option linter.unusedSimpArgs false
set_option linter.unusedVariables false
abbrev DrawS := (Nat × Nat) × List Int
def drawAt (m : Int) (q : DrawS) : Int := (PRng.below q.1.1 q.1.2 (m + 1).toNat : Nat)
def stDraw (m : Int) (q : DrawS) : Except Int (Int × DrawS) := .ok (drawAt m q, (((q.1.1 + q.1.2) % 18446744073709551616, q.1.2), q.2 ++ [drawAt m q]))
theorem drawAt_bd (m : Int) (q : DrawS) (hm : 0 ≤ m) : 0 ≤ drawAt m q ∧ drawAt m q ≤ m := by
  unfold drawAt
  have := PRng.below_lt q.1.1 q.1.2 (m + 1).toNat (by omega)
  omega
structure JDraw (w0 : World) (B p1 p2 : Nat) (q : DrawS) (g : Nat) (W : World) : Prop where
  old : ∀ b, b < w0.heap.size → W.heap[b]? = w0.heap[b]?
  size : B ≤ W.heap.size
  own : ∃ ov, Blk W p2 #[ov] 32 ∧ OwnInts W B ov q.2 ∧ ((ov.ownBlock = none ∧ g = p2) ∨ (ov.ownBlock = some g ∧ g ≠ p1 ∧ g ≠ p2))
  seed : Blk W p1 #[.int .u64 q.1.1, .int .u64 q.1.2] 57
  in64 : ∀ n ∈ q.2, In64 n
theorem JDraw.stay {w0 : World} {B p1 p2 : Nat} {q : DrawS} {g : Nat} {w w' : World} (h0 : w0.heap.size ≤ B) (h : JDraw w0 B p1 p2 q g w) (hz : w.heap.size ≤ w'.heap.size)
    (hk : ∀ b, b < w.heap.size → (b < B ∨ b = p1 ∨ b = p2 ∨ b = g) → w'.heap[b]? = w.heap[b]?) : JDraw w0 B p1 p2 q g w' := by
  obtain ⟨ov, h1, h2, h3⟩ := h.own
  have hsz := h.size
  refine ⟨fun b hb => (hk b (by omega) (.inl (by omega))).trans (h.old b hb), by omega, ⟨ov, (hk _ h1.lt (by simp)).trans h1, ⟨h2.1, ?_⟩, h3⟩, (hk _ h.seed.lt (by simp)).trans h.seed, h.in64⟩
  rcases h2.2 with h4 | ⟨g', cap, cur, hv, hg, hh, r⟩
  · exact .inl h4
  · have hlt : g' < w.heap.size := (Array.getElem?_eq_some_iff.1 hh).1
    have hgg : g' = g := by
      rcases h3 with ⟨h3, _⟩ | ⟨h3, _⟩
      · rw [hv] at h3; cases h3
      · rw [hv] at h3; exact Option.some.inj h3
    exact .inr ⟨g', cap, cur, hv, hg, (hk g' hlt (by simp [hgg])).trans hh, r⟩
theorem JDraw.next {w0 : World} {B p1 p2 : Nat} {q : DrawS} {g : Nat} {w w5 w6 : World} {x : Int} {sd : Nat × Nat} {ov : Value} {gi cap : Nat} (h0 : w0.heap.size ≤ B) (hp1 : B ≤ p1) (hp2 : B ≤ p2) (hne : p1 ≠ p2) (hJ : JDraw w0 B p1 p2 q g w)
    (hb1 : Blk w p2 #[ov] 32) (hg : (ov.ownBlock = none ∧ g = p2) ∨ (ov.ownBlock = some g ∧ g ≠ p1 ∧ g ≠ p2)) (hB : Own p1 p1 p1 p1 w w5) (hs5 : Blk w5 p1 #[.int .u64 sd.1, .int .u64 sd.2] 57) (hx : In64 x)
    (how : OwnInts w6 B (.slice (some ⟨gi, 0, none⟩) (q.2.length + 1) cap) (q.2 ++ [x])) (hgr : w5.grownBy w6 ov.ownBlock) (hat : ov.ownBlock = some gi ∨ gi = w5.heap.size) :
    JDraw w0 B p1 p2 (sd, q.2 ++ [x]) gi (w6.setCell ⟨p2, 0, none⟩ (.slice (some ⟨gi, 0, none⟩) (q.2.length + 1) cap)) ∧ Own p1 p2 g gi w (w6.setCell ⟨p2, 0, none⟩ (.slice (some ⟨gi, 0, none⟩) (q.2.length + 1) cap)) := by
  have hz5 := hB.size
  have hz6 := hgr.size
  have hsz := hJ.size
  have hl1 := hb1.lt
  have hl2 := hJ.seed.lt
  have hogn : ∀ k, ov.ownBlock = some k → k = g ∧ k ≠ p1 ∧ k ≠ p2 := by
    intro k hk
    rcases hg with ⟨e, _⟩ | ⟨e, e1, e2⟩
    · rw [e] at hk; cases hk
    · rw [e] at hk; have := Option.some.inj hk; subst this; exact ⟨rfl, e1, e2⟩
  have hgb : B ≤ gi := by
    rcases how.2 with ⟨hv, _⟩ | ⟨g', cap', cur, hv, hg', _⟩
    · cases hv
    · simp at hv; omega
  have hgi : gi ≠ p1 ∧ gi ≠ p2 := by
    rcases hat with e | e
    · exact (hogn _ e).2
    · omega
  have hk6 : ∀ b, b < w.heap.size → b ≠ p1 → b ≠ p2 → ov.ownBlock ≠ some b → (w6.setCell ⟨p2, 0, none⟩ (.slice (some ⟨gi, 0, none⟩) (q.2.length + 1) cap)).heap[b]? = w.heap[b]? := by
    intro b hb h1 h2 h3
    rw [Below.heap_setCell _ _ _ _ h2, hgr.block b (by omega) (fun e => h3 e.symm)]
    exact hB.blk b hb h1 h1 h1
  have hbig : ∀ k, ov.ownBlock = some k → B ≤ k := by
    intro k hk
    obtain ⟨ov2, h1, h2, h3⟩ := hJ.own
    have e : ov2 = ov := by
      have := h1.symm.trans hb1
      simpa using this
    subst e
    exact (World.ownsRow.lt h2 k hk).1
  have hb6 : Blk w6 p2 #[ov] 32 := (hgr.block p2 (by omega) (fun e => (hogn _ e.symm).2.2 rfl)).trans ((hB.blk p2 hl1 (fun e => hne e.symm) (fun e => hne e.symm) (fun e => hne e.symm)).trans hb1)
  refine ⟨⟨fun b hb => ?_, by rw [size_setCell]; omega, ⟨.slice (some ⟨gi, 0, none⟩) (q.2.length + 1) cap, ?_, ?_, .inr ⟨rfl, hgi⟩⟩, ?_, ?_⟩, ⟨?_, ?_, ?_, by rw [size_setCell]; omega, fun b hb h1 h2 h3 => ?_, ?_⟩⟩
  · rw [hk6 b (by omega) (by omega) (by omega) (fun e => by have := hbig b e; omega)]
    exact hJ.old b hb
  · have := hb6.set 0 (.slice (some ⟨gi, 0, none⟩) (q.2.length + 1) cap)
    simpa using this
  · refine ⟨how.1, ?_⟩
    rcases how.2 with h4 | ⟨g', cap', cur, hv, hg', hh, r⟩
    · exact .inl h4
    · refine .inr ⟨g', cap', cur, hv, hg', ?_, r⟩
      simp at hv
      rw [Below.heap_setCell _ _ _ _ (by dsimp only; omega)]
      exact hh
  · refine Blk.oth ?_ p2 0 hne _
    exact (hgr.block p1 hs5.lt (fun e => (hogn _ e.symm).2.1 rfl)).trans hs5
  · intro n hn
    rcases List.mem_append.1 hn with hn | hn
    · exact hJ.in64 n hn
    · simp at hn; rw [hn]; exact hx
  · exact (show (w6.setCell _ _).os = w6.os from rfl).trans (hgr.os.trans hB.os)
  · exact (show (w6.setCell _ _).tape = w6.tape from rfl).trans (hgr.tape.trans hB.tape)
  · exact (show (w6.setCell _ _).output = w6.output from rfl).trans (hgr.output.trans hB.output)
  · exact hk6 b hb h1 h2 (fun e => h3 (hogn b e).1)
  · rcases hat with e | e
    · exact .inl (hogn _ e).1
    · right; omega
theorem OwnInts.away {w w' : World} {base p1 : Nat} {v : Value} {xs : List Int} (h : OwnInts w base v xs) (ho : Own p1 p1 p1 p1 w w') (hne : v.ownBlock ≠ some p1) : OwnInts w' base v xs := by
  refine ⟨h.1, ?_⟩
  rcases h.2 with h2 | ⟨g, cap, cur, hv, hg, hh, r⟩
  · exact .inl h2
  · have hn : g ≠ p1 := by intro e; rw [hv, e] at hne; exact hne rfl
    exact .inr ⟨g, cap, cur, hv, hg, (ho.blk g (Array.getElem?_eq_some_iff.1 hh).1 hn hn hn).trans hh, r⟩
theorem Own.lit {p1 : Nat} {w w' : World} (h : Own p1 p1 p1 p1 w w') (o : Obj) : Own p1 p1 p1 p1 w (w'.alloc o) := by
  have h2 : Below w'.heap.size w' (w'.alloc o) := (Below.refl _ _).alloc (Nat.le_refl _) o
  exact ⟨h2.os.trans h.os, h2.tape.trans h.tape, h2.output.trans h.output, Nat.le_trans h.size h2.size, fun b hb h1 h3 h4 => (h2.block b (Nat.lt_of_lt_of_le hb h.size)).trans (h.blk b hb h1 h3 h4), .inl rfl⟩
theorem Own.set1 {p1 : Nat} {w w' : World} (h : Own p1 p1 p1 p1 w w') (j : Nat) (v : Value) : Own p1 p1 p1 p1 w (w'.setCell ⟨p1, j, none⟩ v) :=
  ⟨(show (w'.setCell _ _).os = w'.os from rfl).trans h.os, (show (w'.setCell _ _).tape = w'.tape from rfl).trans h.tape, (show (w'.setCell _ _).output = w'.output from rfl).trans h.output, by rw [size_setCell]; exact h.size, fun b hb h1 h3 h4 => (Below.heap_setCell _ _ _ _ h1).trans (h.blk b hb h1 h3 h4), .inl rfl⟩
set_option maxHeartbeats 2000000 in
theorem draw1_any (w0 : World) (B p1 p2 : Nat) (h0 : w0.heap.size ≤ B) (hp1 : B ≤ p1) (hp2 : B ≤ p2) (hne : p1 ≠ p2) (m : Int) (s gm : Nat) (out : List Int) (g : Nat) (w : World) (hm0 : 0 ≤ m) (hm1 : m ≤ 1000) (hlen : out.length ≤ 1099511627776) (hJ : JDraw w0 B p1 p2 ((s, gm), out) g w) :
    Calls Tryz.prog 51 #[.int .i64 m, .pointer (some ⟨p1, 0, none⟩), .pointer (some ⟨p2, 0, none⟩)] w fun e w' => e = .returned (.int .i64 (drawAt m ((s, gm), out))) ∧ ∃ g', JDraw w0 B p1 p2 (((s + gm) % 18446744073709551616, gm), out ++ [drawAt m ((s, gm), out)]) g' w' ∧ Own p1 p2 g g' w w' := by
  obtain ⟨ov, hb1, how, hg⟩ := hJ.own
  have hb2 := hJ.seed
  have hbd := drawAt_bd m ((s, gm), out) hm0
  have hogn : ov.ownBlock ≠ some p1 ∧ ov.ownBlock ≠ some p2 := by
    rcases hg with ⟨e, _⟩ | ⟨e, e1, e2⟩
    · rw [e]; simp
    · rw [e]; simp; exact ⟨e1, e2⟩
  obtain ⟨mm, rfl⟩ := Int.eq_ofNat_of_zero_le hm0
  have CB : Hid (∀ W, Calls Tryz.prog 52 #[.agg #[.int .u64 s, .int .u64 gm], .int .i64 ((mm : Int) + 1)] W fun e w' => e = .returned (.tuple #[.int .i64 (drawAt (mm : Int) ((s, gm), out)), .agg #[.int .u64 ((s + gm) % 18446744073709551616 : Nat), .int .u64 gm], .nilIface]) ∧ Below W.heap.size W w') := fun W => below_yes s gm (mm + 1) (by omega) (by omega) W
  obtain ⟨oad, ocap, hov, _⟩ := (how.at hJ.in64).form
  subst hov
  generalize drawAt (mm : Int) ((s, gm), out) = x at *
  have c0 := hb2.cell 0
  have c1 := hb2.cell 1
  simp only [List.getElem?_toArray, List.getElem?_cons_succ, List.getElem?_cons_zero] at c0 c1
  have hl1 := hb1.lt
  have hl2 := hb2.lt
  generalize hT : (s + gm) % 18446744073709551616 = T at *
  clear hT
  go_enter Tryz.func51, Tryz.ntmps51
  go_wp2_with fail
  refine (CB.out _).mono ?_
  rintro e w3 ⟨rfl, hb3⟩
  have y2 := hb2.ext hb3
  have y1 := hb1.ext hb3
  have hz3 := hb3.size
  have l1 : p1 < w3.heap.size := by omega
  have l2 : p2 < w3.heap.size := by omega
  clear c0 c1
  have c0 := y2.cell 0
  have c1 := y2.cell 1
  have u0 := y2.unfrozen 0
  have u1 := y2.unfrozen 1
  have d0 := y1.cell 0
  have v0 := y1.unfrozen 0
  simp only [List.getElem?_toArray, List.getElem?_cons_succ, List.getElem?_cons_zero] at c0 c1 d0
  go_upto_region 5 with (fail)
  have hO : Own p1 p1 p1 p1 w (((w3.setCell ⟨p1, 0, none⟩ (.int .u64 T)).setCell ⟨p1, 1, none⟩ (.int .u64 gm)).alloc (.cells #[.int .u64 T, .int .u64 gm] 57)) :=
    Own.lit (Own.set1 (Own.set1 ⟨hb3.os, hb3.tape, hb3.output, hb3.size, fun b hb _ _ _ => hb3.block b hb, .inl rfl⟩ 0 (.int .u64 T)) 1 (.int .u64 gm)) _
  have hs5 : Blk (((w3.setCell ⟨p1, 0, none⟩ (.int .u64 T)).setCell ⟨p1, 1, none⟩ (.int .u64 gm)).alloc (.cells #[.int .u64 T, .int .u64 gm] 57)) p1 #[.int .u64 T, .int .u64 gm] 57 := by
    have := ((y2.set 0 (.int .u64 (T : Int))).set 1 (.int .u64 (gm : Int)))
    simp only [List.setIfInBounds_toArray, List.set_cons_zero, List.set_cons_succ] at this
    exact this.alloc _
  have ho5 : Blk (((w3.setCell ⟨p1, 0, none⟩ (.int .u64 T)).setCell ⟨p1, 1, none⟩ (.int .u64 gm)).alloc (.cells #[.int .u64 T, .int .u64 gm] 57)) p2 #[.slice oad out.length ocap] 32 := ((y1.oth p1 0 (fun e => hne e.symm) _).oth p1 1 (fun e => hne e.symm) _).alloc _
  have hw5 : OwnInts _ B (.slice oad out.length ocap) out := how.away hO hogn.1
  clear c0 c1 u0 u1 d0 v0 y1 y2 hb3
  generalize ((w3.setCell ⟨p1, 0, none⟩ (.int .u64 T)).setCell ⟨p1, 1, none⟩ (.int .u64 gm)).alloc (.cells #[.int .u64 T, .int .u64 gm] 57) = w5 at *
  have d0 := ho5.cell 0
  have v0 := ho5.unfrozen 0
  simp only [List.getElem?_toArray, List.getElem?_cons_succ, List.getElem?_cons_zero] at d0
  have hzw := hO.size
  have hszJ := hJ.size
  have l5 : p2 < w5.heap.size := by omega
  go_wp2_with (at_builtin; refine append_int1 (o := ⟨some 22, _, _, _, _, _⟩) rfl _ _ rfl rfl (hw5.kept (by repeat (first | with_reducible assumption | with_reducible exact Below.refl _ _ | with_reducible apply Below.drew | (with_reducible refine Below.alloc ?_ (by first | omega | (simp only [zA, zS, zD, zN]; omega) | (dsimp only; omega) | (simp only [zA, zS, zD, zN]; dsimp only; omega)) _) | (with_reducible refine Below.setCell ?_ (by first | omega | (simp only [zA, zS, zD, zN]; omega) | (dsimp only; omega) | (simp only [zA, zS, zD, zN]; dsimp only; omega)) _) | (with_reducible apply below_drewN)))) rfl (Blk.new _ _ _) (by omega) (by simp; omega) ?_; intro gi capi w6 h1 h2 h3 h4; have b6 := (h2.block p2 (by simp; omega) (fun e => hogn.2 e.symm)).trans (ho5.alloc _); have c6 := Blk.cell b6 0; have u6 := Blk.unfrozen b6 0; simp only [List.getElem?_toArray, List.getElem?_cons_succ, List.getElem?_cons_zero] at c6)
  go_ret
  exact ⟨rfl, gi, hJ.next (sd := (T, gm)) h0 hp1 hp2 hne hb1 hg (hO.lit _) (hs5.alloc _) ⟨by omega, by omega⟩ h1 h2 h3⟩
end Go.Proofs.YtibmnifenfingaaGreatDoor
namespace Go.Proofs.YtibmnifenfingaaGreatDoor
set_option maxRecDepth 100000
open Go.RowKit
set_option linter.unusedSimpArgs false
set_option linter.unusedVariables false
theorem enter_draw1 (args : Array Value) (w : World) : Sem.run Tryz.prog (callFunc 51 args) w = .ok (.enter 51 args) w := by
  rfl
theorem stDraw_bd {m : Int} {q : DrawS} {c : Int} {q' : DrawS} (hm : 0 ≤ m) (h : stDraw m q = .ok (c, q')) : 0 ≤ c ∧ c ≤ m := by
  simp only [stDraw, Except.ok.injEq, Prod.mk.injEq] at h
  rw [← h.1]
  exact drawAt_bd m q hm
theorem stDraw_bud {m : Int} {q : DrawS} {c : Int} {q' : DrawS} (h : stDraw m q = .ok (c, q')) : 1099511627776 - q.2.length ≤ 1099511627776 - q'.2.length + 1 := by
  simp only [stDraw, Except.ok.injEq, Prod.mk.injEq] at h
  rw [← h.2]
  simp
  omega
theorem cho_draw (w0 : World) (B p1 p2 : Nat) (h0 : w0.heap.size ≤ B) (hp1 : B ≤ p1) (hp2 : B ≤ p2) (hne : p1 ≠ p2) :
    Cho B 51 p1 p2 stDraw (fun q g W => JDraw w0 B p1 p2 q g W) (fun q => 1099511627776 - q.2.length) where
  enter := enter_draw1
  bd := fun m q c q' hm h => stDraw_bd hm h
  bdd := fun m q c q' hm h => stDraw_bud h
  stay := fun q g w w' h hz hk => h.stay h0 hz hk
  lt := fun q g w h => by
    obtain ⟨ov, h1, h2, h3⟩ := h.own
    refine ⟨hp1, h.seed.lt, hp2, h1.lt, ?_⟩
    rcases h3 with ⟨_, e⟩ | ⟨e, _, _⟩
    · rw [e]; exact ⟨hp2, h1.lt⟩
    · exact World.ownsRow.lt h2 g e
  call := fun m q g w hm0 hm1 hb hJ => by
    obtain ⟨⟨s, gm⟩, out⟩ := q
    refine (draw1_any w0 B p1 p2 h0 hp1 hp2 hne m s gm out g w hm0 hm1 (by simp only at hb; omega) hJ).mono ?_
    rintro e w' ⟨rfl, g', h⟩
    exact ⟨rfl, g', h⟩
/-- The tape that is drawn. -/
def drawR (g : GT) (sd : Nat × Nat) : List Int := match GT.play stDraw g (sd, []) with
  | .ok (_, q) => q.2
  | .error _ => []
theorem draw_play (g : GT) (hc : GT.check g = 0) (sd : Nat × Nat) : ∃ t q, GT.play stDraw g (sd, []) = .ok (t, q) ∧ drawR g sd = q.2 := by
  obtain ⟨t, q, h⟩ := GT.play_total stDraw (fun m q _ => ⟨_, _, rfl⟩) (fun m q c q' hm h => stDraw_bd hm h) g (GT.check_ok hc) (sd, [])
  exact ⟨t, q, h, by simp [drawR, h]⟩
set_option maxHeartbeats 2000000 in
theorem draw_bad (g : GT) (gv sv : Value) (hc : GT.check g ≠ 0) (w : World) (hg : GenAt w gv g) (sd : Nat × Nat) (hsv : SeedAt sv sd) :
    Calls Tryz.prog 27 #[gv, sv] w fun e w' => e = .returned (.tuple #[.slice none 0 0, errV (GT.check g)]) ∧ Below w.heap.size w w' := by
  obtain ⟨k, a, b, s, ad, cap, hmk, rfl, hk, ha, hb, hl, hm, hs⟩ := hg.form
  obtain ⟨rfl, _, _⟩ := hsv
  have C1 := Lib.hid (fun W (h : Below w.heap.size w W) => check_any g (.agg #[.int .i64 k, .int .i64 a, .int .i64 b, .slice ad s.length cap]) W (hg.ext h))
  rw [errV_ne hc] at *
  clear hc hg hmk hk ha hb hl hm hs
  go_enter Tryz.func27, Tryz.ntmps27
  go_wp2_with fail
  refine (C1.out _ (by repeat (first | with_reducible assumption | with_reducible exact Below.refl _ _ | with_reducible apply Below.drew | (with_reducible refine Below.alloc ?_ (by first | omega | (simp only [zA, zS, zD, zN]; omega) | (dsimp only; omega) | (simp only [zA, zS, zD, zN]; dsimp only; omega)) _) | (with_reducible refine Below.setCell ?_ (by first | omega | (simp only [zA, zS, zD, zN]; omega) | (dsimp only; omega) | (simp only [zA, zS, zD, zN]; dsimp only; omega)) _) | (with_reducible apply below_drewN)))).mono ?_
  rintro e w1 ⟨rfl, hb1⟩
  have hB1 : Below w.heap.size w w1 := Below.trans (by repeat (first | with_reducible assumption | with_reducible exact Below.refl _ _ | with_reducible apply Below.drew | (with_reducible refine Below.alloc ?_ (by first | omega | (simp only [zA, zS, zD, zN]; omega) | (dsimp only; omega) | (simp only [zA, zS, zD, zN]; dsimp only; omega)) _) | (with_reducible refine Below.setCell ?_ (by first | omega | (simp only [zA, zS, zD, zN]; omega) | (dsimp only; omega) | (simp only [zA, zS, zD, zN]; dsimp only; omega)) _) | (with_reducible apply below_drewN))) (hb1.mono (by first | omega | (simp only [zA, zS, zD, zN]; omega) | (dsimp only; omega) | (simp only [zA, zS, zD, zN]; dsimp only; omega)))
  obtain ⟨hc1, hf1, hz1⟩ := bcell hb1
  try simp only [zA, zS, zD, zN] at hz1
  clear hb1
  have y1_0 : w.heap.size < w1.heap.size := by omega
  have y1_1 : w.heap.size + 1 < w1.heap.size := by omega
  go_wp2_with fail
  go_ret2
  exact ⟨rfl, by repeat (first | with_reducible assumption | with_reducible exact Below.refl _ _ | with_reducible apply Below.drew | (with_reducible refine Below.alloc ?_ (by first | omega | (simp only [zA, zS, zD, zN]; omega) | (dsimp only; omega) | (simp only [zA, zS, zD, zN]; dsimp only; omega)) _) | (with_reducible refine Below.setCell ?_ (by first | omega | (simp only [zA, zS, zD, zN]; omega) | (dsimp only; omega) | (simp only [zA, zS, zD, zN]; dsimp only; omega)) _) | (with_reducible apply below_drewN))⟩
set_option maxHeartbeats 2000000 in
theorem draw_any (g : GT) (gv sv : Value) (hc : GT.check g = 0) (w : World) (hg : GenAt w gv g) (sd : Nat × Nat) (hsv : SeedAt sv sd) :
    Calls Tryz.prog 27 #[gv, sv] w fun e w' => (∃ v, e = .returned (.tuple #[v, .nilIface]) ∧ IntsAt w' v (drawR g sd)) ∧ Below w.heap.size w w' := by
  obtain ⟨k, a, b, s, ad, cap, hmk, rfl, hk, ha, hb, hl, hm, hs⟩ := hg.form
  obtain ⟨rfl, _, _⟩ := hsv
  have C1 := Lib.hid (fun W (h : Below w.heap.size w W) => check_any g (.agg #[.int .i64 k, .int .i64 a, .int .i64 b, .slice ad s.length cap]) W (hg.ext h))
  rw [hc, errV_zero] at C1
  have hE := GT.check_ok hc
  have hP := GT.check_parts hc
  have hCo := GT.cost_ok hc
  obtain ⟨t, q, hplay, hR⟩ := draw_play g hc sd
  rw [hR]
  have C2 := Lib.hid (fun p2 W (hp2 : w.heap.size + 1 < p2) (hJ : JDraw w w.heap.size (w.heap.size + 1) p2 (sd, []) p2 W) (hW : Below w.heap.size w W) =>
    made_any (cho_draw w w.heap.size (w.heap.size + 1) p2 (Nat.le_refl _) (by omega) (by omega) (by omega)) w (Nat.le_refl _) g 0 (sd, []) p2 W _ hE hP (by simp; omega) hJ hW hg)
  rw [hplay] at C2
  clear hR hplay hc hk ha hb hl hm hs hmk hg hE hP
  go_enter Tryz.func27, Tryz.ntmps27
  go_wp2_with fail
  refine (C1.out _ (by repeat (first | with_reducible assumption | with_reducible exact Below.refl _ _ | with_reducible apply Below.drew | (with_reducible refine Below.alloc ?_ (by first | omega | (simp only [zA, zS, zD, zN]; omega) | (dsimp only; omega) | (simp only [zA, zS, zD, zN]; dsimp only; omega)) _) | (with_reducible refine Below.setCell ?_ (by first | omega | (simp only [zA, zS, zD, zN]; omega) | (dsimp only; omega) | (simp only [zA, zS, zD, zN]; dsimp only; omega)) _) | (with_reducible apply below_drewN)))).mono ?_
  rintro e w1 ⟨rfl, hb1⟩
  have hB1 : Below w.heap.size w w1 := Below.trans (by repeat (first | with_reducible assumption | with_reducible exact Below.refl _ _ | with_reducible apply Below.drew | (with_reducible refine Below.alloc ?_ (by first | omega | (simp only [zA, zS, zD, zN]; omega) | (dsimp only; omega) | (simp only [zA, zS, zD, zN]; dsimp only; omega)) _) | (with_reducible refine Below.setCell ?_ (by first | omega | (simp only [zA, zS, zD, zN]; omega) | (dsimp only; omega) | (simp only [zA, zS, zD, zN]; dsimp only; omega)) _) | (with_reducible apply below_drewN))) (hb1.mono (by first | omega | (simp only [zA, zS, zD, zN]; omega) | (dsimp only; omega) | (simp only [zA, zS, zD, zN]; dsimp only; omega)))
  have x2 := ((Blk.new (w.alloc (.cells #[.int .i64 k, .int .i64 a, .int .i64 b, .slice ad s.length cap] 24)) #[.int .u64 sd.1, .int .u64 sd.2] 57)).ext hb1
  obtain ⟨hc1, hf1, hz1⟩ := bcell hb1
  simp only [World.size_alloc] at x2 hz1
  clear hb1
  have y1_0 : w.heap.size < w1.heap.size := by omega
  go_wp2_with fail
  have hJ0 : JDraw w w.heap.size (w.heap.size + 1) w1.heap.size (sd, []) w1.heap.size (w1.alloc (.cells #[.slice none 0 0] 32)) :=
    ⟨fun b hb => (Below.heap_alloc w1 _ b (by omega)).trans (hB1.block b hb), by simp; omega, ⟨_, Blk.new _ _ _, OwnInts.nil _ _, .inl ⟨rfl, rfl⟩⟩, x2.alloc _, by simp⟩
  refine (C2.out w1.heap.size _ (by omega) hJ0 (by repeat (first | with_reducible assumption | with_reducible exact Below.refl _ _ | with_reducible apply Below.drew | (with_reducible refine Below.alloc ?_ (by first | omega | (simp only [zA, zS, zD, zN]; omega) | (dsimp only; omega) | (simp only [zA, zS, zD, zN]; dsimp only; omega)) _) | (with_reducible refine Below.setCell ?_ (by first | omega | (simp only [zA, zS, zD, zN]; omega) | (dsimp only; omega) | (simp only [zA, zS, zD, zN]; dsimp only; omega)) _) | (with_reducible apply below_drewN)))).mono ?_
  rintro e w3 ⟨u, rfl, g', hJ3, ho, _⟩
  have hB3 : Below w.heap.size w w3 := (Below.alloc hB1 (by omega) _).trans (ho.below (by omega) (by omega) (by omega) (by simp; omega))
  obtain ⟨ov, h1, h2, h3⟩ := hJ3.own
  have h4 := h2.at hJ3.in64
  have c3 := h1.cell 0
  simp only [List.getElem?_toArray, List.getElem?_cons_succ, List.getElem?_cons_zero] at c3
  obtain ⟨oad, ocap, rfl, _⟩ := h4.form
  have H4 := Lib.hid h4
  clear h3 h2 h4 h1
  go_wp2_with fail
  go_ret2
  exact ⟨⟨_, rfl, H4.out⟩, hB3⟩
end Go.Proofs.YtibmnifenfingaaGreatDoor
namespace Go.Proofs.YtibmnifenfingaaGreatDoor
set_option maxRecDepth 100000
set_option linter.unusedSimpArgs false
set_option linter.unusedVariables false
namespace GT
theorem play_inv {σ : Type} (st : Int → σ → Except Int (Int × σ)) (P : σ → Prop) (hbd : ∀ m q c q', 0 ≤ m → st m q = .ok (c, q') → 0 ≤ c ∧ c ≤ m) (hst : ∀ m q c q', 0 ≤ m → m ≤ 1000 → st m q = .ok (c, q') → P q → P q') (g : GT) : eachErr g = 0 → ∀ d, (parts g d).2 = true → ∀ q t q', play st g q = .ok (t, q') → P q → P q' := by
  induction g using GT.ind with
  | h k a b s ih =>
    intro he d hp q t q' h hq0
    have hk := ok_kids he
    obtain ⟨hlen, hd, hpk⟩ := GT.parts_kids hp
    have hI : ∀ x ∈ s, ∀ q t q', play st x q = .ok (t, q') → P q → P q' := fun x hx => ih x hx (hk x hx) (d + 1) (hpk x hx)
    rcases one_cases (ok_one he) with ⟨rfl, h1, h2, h3⟩ | ⟨rfl, h0, h0', h1, h2, h3⟩ | rfl | ⟨rfl, h1, h2, h3⟩ | ⟨rfl, h1⟩
    · simp [play] at h
      rw [← h.2]; exact hq0
    · simp only [play, show ¬ ((2:Int) = 1) by decide, if_false, if_true] at h
      cases hq : st (b - a) q with
      | error e => rw [hq] at h; cases h
      | ok r =>
        obtain ⟨c, q1⟩ := r
        rw [hq] at h
        simp only [Except.ok.injEq, Prod.mk.injEq] at h
        rw [← h.2]
        exact hst (b - a) q c q1 (by omega) (by omega) hq hq0
    · have hL : ∀ (l : List GT), (∀ x ∈ l, x ∈ s) → ∀ q r q', playL st l q = .ok (r, q') → P q → P q' := by
        intro l
        induction l with
        | nil => intro _ q r q' h h0; simp [playL] at h; rw [← h.2]; exact h0
        | cons x l ihl =>
          intro hx q r q' h h0
          simp only [playL] at h
          cases hq : play st x q with
          | error e => rw [hq] at h; cases h
          | ok r1 =>
            obtain ⟨v, q1⟩ := r1
            rw [hq] at h
            simp only at h
            cases hq1 : playL st l q1 with
            | error e => rw [hq1] at h; cases h
            | ok r2 =>
              obtain ⟨l1, q2⟩ := r2
              rw [hq1] at h
              simp only [Except.ok.injEq, Prod.mk.injEq] at h
              rw [← h.2]
              exact ihl (fun y hy => hx y (by simp [hy])) q1 l1 q2 hq1 (hI x (hx x (by simp)) q v q1 hq h0)
      simp only [play, show ¬ ((3:Int) = 1) by decide, show ¬ ((3:Int) = 2) by decide, if_false, if_true] at h
      cases hq : playL st s q with
      | error e => rw [hq] at h; cases h
      | ok r =>
        obtain ⟨l, q1⟩ := r
        rw [hq] at h
        simp only [Except.ok.injEq, Prod.mk.injEq] at h
        rw [← h.2]
        exact hL s (fun x hx => hx) q l q1 hq hq0
    · simp only [play, show ¬ ((4:Int) = 1) by decide, show ¬ ((4:Int) = 2) by decide, show ¬ ((4:Int) = 3) by decide, if_false, if_true] at h
      cases hq : st a q with
      | error e => rw [hq] at h; cases h
      | ok r =>
        obtain ⟨c, q1⟩ := r
        rw [hq] at h
        simp only at h
        match s, h1, hI, h with
        | [y], _, hI, h =>
          have hT : ∀ n q r q', times (fun q => play st y q) n q = .ok (r, q') → P q → P q' := by
            intro n
            induction n with
            | zero => intro q r q' h h0; simp [times] at h; rw [← h.2]; exact h0
            | succ n ihn =>
              intro q r q' h h0
              simp only [times] at h
              cases hq : play st y q with
              | error e => rw [hq] at h; cases h
              | ok r1 =>
                obtain ⟨v, q1⟩ := r1
                rw [hq] at h
                simp only at h
                cases hq1 : times (fun q => play st y q) n q1 with
                | error e => rw [hq1] at h; cases h
                | ok r2 =>
                  obtain ⟨l1, q2⟩ := r2
                  rw [hq1] at h
                  simp only [Except.ok.injEq, Prod.mk.injEq] at h
                  rw [← h.2]
                  exact ihn q1 l1 q2 hq1 (hI y (by simp) q v q1 hq h0)
          simp only [playN] at h
          cases hq1 : times (fun q => play st y q) c.toNat q1 with
          | error e => rw [hq1] at h; cases h
          | ok r2 =>
            obtain ⟨l1, q2⟩ := r2
            rw [hq1] at h
            simp only [Except.ok.injEq, Prod.mk.injEq] at h
            rw [← h.2]
            exact hT c.toNat q1 l1 q2 hq1 (hst a q c q1 h2 (by omega) hq hq0)
    · simp only [play, show ¬ ((5:Int) = 1) by decide, show ¬ ((5:Int) = 2) by decide, show ¬ ((5:Int) = 3) by decide, show ¬ ((5:Int) = 4) by decide, if_false, if_true] at h
      cases hq : st (s.length - 1) q with
      | error e => rw [hq] at h; cases h
      | ok r =>
        obtain ⟨c, q1⟩ := r
        rw [hq] at h
        have hc := hbd _ _ _ _ (by omega) hq
        have hi : c.toNat < s.length := by omega
        simp only at h
        rw [playI_get st s c.toNat hi] at h
        exact hI s[c.toNat] (List.getElem_mem hi) q1 t q' h (hst _ q c q1 (by omega) (by omega) hq hq0)
end GT
/-- What is drawn lies within what a tape may hold. -/
theorem draw_within (g : GT) (hc : GT.check g = 0) (sd : Nat × Nat) : ∀ n ∈ drawR g sd, 0 ≤ n ∧ n ≤ 1000 := by
  obtain ⟨t, q, hp, hR⟩ := draw_play g hc sd
  rw [hR]
  refine GT.play_inv stDraw (fun q => ∀ n ∈ q.2, 0 ≤ n ∧ n ≤ 1000) (fun m q c q' hm h => stDraw_bd hm h) (fun m q c q' hm hm2 h hq => ?_) g (GT.check_ok hc) 0 (GT.check_parts hc) (sd, []) t q hp (by simp)
  have hb := stDraw_bd hm h
  simp only [stDraw, Except.ok.injEq, Prod.mk.injEq] at h
  obtain ⟨h1, rfl⟩ := h
  intro n hn
  rcases List.mem_append.1 hn with hn | hn
  · exact hq n hn
  · simp at hn
    rw [hn, h1]
    omega
/-- What is drawn can be played. -/
theorem play_drawn (g : GT) (hc : GT.check g = 0) (sd : Nat × Nat) : ∃ t, playR g (drawR g sd) = (t, 0) := by
  obtain ⟨t, q, hp, hR⟩ := draw_play g hc sd
  have h := (GT.play_sim stDraw (stPlay q.2) (fun a b => a.2 <+: b.2) q (fun q => q.2.length) (fun q => List.prefix_refl _) (fun a b c h1 h2 => h1.trans h2) (fun m q c q' h => by
      simp only [stDraw, Except.ok.injEq, Prod.mk.injEq] at h
      rw [← h.2]
      exact List.prefix_append _ _) (fun m q c q' hm h => stDraw_bd hm h) (fun m q1 c q' hm h hF => by
      have hb := stDraw_bd hm h
      simp only [stDraw, Except.ok.injEq, Prod.mk.injEq] at h
      obtain ⟨h1, rfl⟩ := h
      simp only [h1] at hF ⊢
      obtain ⟨hi, he⟩ := prefix_get hF
      unfold stPlay
      rw [dif_pos hi, he, if_neg (by omega)]
      simp) g (GT.check_ok hc) (sd, []) t q hp).2 (List.prefix_refl _)
  simp only [List.length_nil] at h
  exact ⟨t, by rw [hR]; simp [playR, hc, h]⟩
end Go.Proofs.YtibmnifenfingaaGreatDoor
