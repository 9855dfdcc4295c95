/- The walk through rose.Less. -/
import Derived.Test.YtjobgkcoblpbcaaRose2
import Derived.Test.YtjobgkcoblpbcaaPlay2
import Derived.Deep.LoopGhost
namespace Go.Proofs.Ytjobgkcoblpbcaa
open Go.RowKit
set_option linter.unusedSimpArgs false
set_option linter.unusedVariables false
/-- Three rows onto nil. -/
theorem append_three {α : Type} {R : World → (Nat → Prop) → Value → α → Prop} (K : Reads R) {w : World} {ops : Array Oper} {rest : List Oper} {o : Oper} {a : Act} {Q : Exit → Act → World → Prop} (hgd : o.guard = none) (s x : Operand) (t e : TypeId)
    (ho : o.op = .call { callee := .builtin .append, args := #[s, x], argTypes := #[t, t] }) (ht : Try.prog.underlying t = some (.slice e)) (hinfo : (Try.prog.info? e).map (fun i => (i.zero, i.size, i.bytes)) = some (some (.slice none 0 0), 1, 24))
    {base : Nat} (hs : a.eval s = .slice none 0 0)
    {bs cap : Nat} {u1 u2 u3 : Value} {te : TypeId} {y1 y2 y3 : α} (hx : a.eval x = .slice (some ⟨bs, 0, none⟩) 3 cap) (hsrc : Blk w bs #[u1, u2, u3] te) (h1 : R w (fun b => base ≤ b) u1 y1) (h2 : R w (fun b => base ≤ b) u2 y2) (h3 : R w (fun b => base ≤ b) u3 y3) (hbase : base ≤ w.heap.size)
    (h : ∀ v' w', OwnRw R e w' base v' [y1, y2, y3] → Below w.heap.size w w' → wpList Try.prog ops Q rest (a.put o.dst v') w') : wpList Try.prog ops Q (o :: rest) a w := by
  refine wpl_append_at hgd s x t ho w.heap.size e ht hinfo rfl (by decide) hs (World.ownsRow_nil _ _ _ _) hx (.inr ⟨⟨bs, 0, none⟩, cap, rfl, World.news_of_block hsrc⟩) (by simp) (fun z hz => ?_) (by unfold maxLen; omega) (by omega) (Nat.le_refl _) ?_
  · have : z = u1 ∨ z = u2 ∨ z = u3 := by simpa using hz
    rcases this with rfl | rfl | rfl
    · exact K.one h1
    · exact K.one h2
    · exact K.one h3
  · intro v' w' k1 k2 k3 k4
    have hb : Below w.heap.size w w' := (Below.refl _ _).grown k2 (Nat.le_refl _) (fun k hk => by simp [Value.ownBlock] at hk)
    have hlo := World.ownsRow.lt k1
    refine h v' w' ⟨[u1, u2, u3], ?_, fun i hi => ?_⟩ hb
    · have := k1
      rw [List.nil_append] at this
      refine ⟨this.1, ?_⟩
      rcases this.2 with h2 | ⟨g, cap, cur, hv, hg, r⟩
      · exact .inl h2
      · exact .inr ⟨g, cap, cur, hv, by omega, r⟩
    · have hmv : ∀ {u : Value} {y : α}, R w (fun b => base ≤ b) u y → R w' (fun b => base ≤ b ∧ v'.ownBlock ≠ some b) u y := fun hR =>
        K.keep hR hb.size (fun b hs hl => ⟨⟨hs, fun e => by have := hlo b e; omega⟩, hb.block b hl⟩)
      have hi3 : i = 0 ∨ i = 1 ∨ i = 2 := by simp at hi; omega
      rcases hi3 with rfl | rfl | rfl
      · exact ⟨u1, rfl, hmv h1⟩
      · exact ⟨u2, rfl, hmv h2⟩
      · exact ⟨u3, rfl, hmv h3⟩
set_option maxHeartbeats 1000000 in
theorem rose_bad (g : GT) (tape : List Int) (hp : (playR g tape).2 ≠ 0) (v tv : Value) (w : World) (hg : GenAt w v g) (ht : IntsAt w tv tape) :
    Calls Try.prog 29 #[v, tv] w fun e w' => e = .returned (.tuple #[.slice none 0 0, errV (playR g tape).2]) ∧ Below w.heap.size w w' := by
  obtain ⟨k, a, b, t, ad, cap, rfl⟩ := hg.shape
  have C2 := Lib.hid (fun W (h : Below w.heap.size w W) => replay_any g tape (.agg #[.int .i64 k, .int .i64 a, .int .i64 b, .slice ad t cap]) tv W (hg.ext h) (ht.ext h))
  rw [errV_ne hp] at *
  obtain ⟨tad, tcap, rfl, htl, htm, _, _⟩ := ht.form
  generalize playR g tape = pr at *
  clear hp hg ht
  go_enter Try.func29, Try.ntmps29
  go_wp2_with fail
  refine (C2.out _ (by repeat (first | with_reducible assumption | with_reducible exact Below.refl _ _ | with_reducible apply Below.drew | (with_reducible refine Below.alloc ?_ (by first | omega | (simp only [World.size_alloc, size_setCell, size_drew, size_drewN]; omega) | (dsimp only; omega) | (simp only [World.size_alloc, size_setCell, size_drew, size_drewN]; dsimp only; omega)) _) | (with_reducible refine Below.setCell ?_ (by first | omega | (simp only [World.size_alloc, size_setCell, size_drew, size_drewN]; omega) | (dsimp only; omega) | (simp only [World.size_alloc, size_setCell, size_drew, size_drewN]; dsimp only; omega)) _)))).mono ?_
  rintro e w2 ⟨⟨rv, rfl, hrv⟩, hb2⟩
  obtain ⟨rl, rn, rk, rad, rcap, rfl⟩ := hrv.shape
  have hB2 : Below w.heap.size w w2 := Below.trans (by repeat (first | with_reducible assumption | with_reducible exact Below.refl _ _ | with_reducible apply Below.drew | (with_reducible refine Below.alloc ?_ (by first | omega | (simp only [World.size_alloc, size_setCell, size_drew, size_drewN]; omega) | (dsimp only; omega) | (simp only [World.size_alloc, size_setCell, size_drew, size_drewN]; dsimp only; omega)) _) | (with_reducible refine Below.setCell ?_ (by first | omega | (simp only [World.size_alloc, size_setCell, size_drew, size_drewN]; omega) | (dsimp only; omega) | (simp only [World.size_alloc, size_setCell, size_drew, size_drewN]; dsimp only; omega)) _))) (hb2.mono (by first | omega | (simp only [World.size_alloc, size_setCell, size_drew, size_drewN]; omega) | (dsimp only; omega) | (simp only [World.size_alloc, size_setCell, size_drew, size_drewN]; dsimp only; omega)))
  have hz2 := hB2.size
  clear hb2 hrv
  go_wp2_with fail
  go_ret2
  exact ⟨rfl, by repeat (first | with_reducible assumption | with_reducible exact Below.refl _ _ | with_reducible apply Below.drew | (with_reducible refine Below.alloc ?_ (by first | omega | (simp only [World.size_alloc, size_setCell, size_drew, size_drewN]; omega) | (dsimp only; omega) | (simp only [World.size_alloc, size_setCell, size_drew, size_drewN]; dsimp only; omega)) _) | (with_reducible refine Below.setCell ?_ (by first | omega | (simp only [World.size_alloc, size_setCell, size_drew, size_drewN]; omega) | (dsimp only; omega) | (simp only [World.size_alloc, size_setCell, size_drew, size_drewN]; dsimp only; omega)) _))⟩
/-- What holds at the head of the loop. -/
structure RoseI (g : GT) (l : List Int) (w : World) (lv : Value) (gk ga gb : Int) (gn gcap : Nat) (gad : Option Addr) (lo p2 p3 p8 : Nat) (B : List (List Int)) (ov : Value) (wr : World) : Prop where
  out : OutAt wr lo p8 ov B
  b2 : Blk wr p2 #[.int .i64 gk, .int .i64 ga, .int .i64 gb, .slice gad gn gcap] 43
  b3 : Blk wr p3 #[lv] 38
  below : Below w.heap.size w wr
  los : lo ≤ wr.heap.size
section
variable {g : GT} {l : List Int} {w : World} {lv : Value} {gk ga gb : Int} {gn gcap : Nat} {gad : Option Addr} {lo p2 p3 p8 : Nat} {B B' : List (List Int)} {ov ov' : Value} {wr w' : World}
theorem RoseI.ext (h : RoseI g l w lv gk ga gb gn gcap gad lo p2 p3 p8 B ov wr) (hb : Below wr.heap.size wr w') : RoseI g l w lv gk ga gb gn gcap gad lo p2 p3 p8 B ov w' :=
  ⟨h.out.ext hb, h.b2.ext hb, h.b3.ext hb, h.below.trans (hb.mono h.below.size), Nat.le_trans h.los hb.size⟩
theorem RoseI.next (h : RoseI g l w lv gk ga gb gn gcap gad lo p2 p3 p8 B ov wr) (h2 : w.heap.size ≤ p2) (h3 : p2 < p3) (h8 : p3 < p8) (hl : p8 < lo) (ho : OutAt w' lo p8 ov' B') (hf : FrO p8 ov ov' wr w') : RoseI g l w lv gk ga gb gn gcap gad lo p2 p3 p8 B' ov' w' := by
  have hlt := h.out.own.lt
  have hne : ∀ b, b < lo → ov.ownBlock ≠ some b := fun b hb e => by have := hlt b e; omega
  refine ⟨ho, (hf.blk _ h.b2.lt (by omega) (hne _ (by omega))).trans h.b2, (hf.blk _ h.b3.lt (by omega) (hne _ (by omega))).trans h.b3, ?_, Nat.le_trans h.los hf.size⟩
  refine ⟨hf.os.trans h.below.os, hf.tape.trans h.below.tape, hf.output.trans h.below.output, Nat.le_trans h.below.size hf.size, fun b hb => ?_⟩
  exact (hf.blk b (Nat.lt_of_lt_of_le hb h.below.size) (by omega) (hne b (by omega))).trans (h.below.block b hb)
end
set_option maxRecDepth 100000 in
set_option maxHeartbeats 4000000 in
theorem rose_any (g : GT) (l : List Int) (hp : (playR g l).2 = 0) (hc : GT.check g = 0) (h01 : ∀ n ∈ l, 0 ≤ n ∧ n ≤ 1000) (hlen : l.length ≤ 1399680) (v lv : Value) (w : World) (hg : GenAt w v g) (hl : IntsAt w lv l) :
    Calls Try.prog 29 #[v, lv] w fun e w' => (∃ u, e = .returned (.tuple #[u, .nilIface]) ∧ RwAt IntsS w' (fun b => w.heap.size ≤ b) u (lessR g l)) ∧ Below w.heap.size w w' := by
  obtain ⟨gk, ga, gb, gn, gad, gcap, rfl⟩ := hg.shape
  have C2 := Lib.hid (fun W (h : Below w.heap.size w W) => replay_any g l (.agg #[.int .i64 gk, .int .i64 ga, .int .i64 gb, .slice gad gn gcap]) lv W (hg.ext h) (hl.ext h))
  rw [hp, errV_zero] at C2
  obtain ⟨lad, lcap, rfl, hll, hlm, hl64, hlc⟩ := hl.form
  unfold maxLen at hlm
  have HG := Lib.hid hg
  have HL := Lib.hid hl
  have HC := Lib.hid hc
  have H01 := Lib.hid h01
  have HLC := Lib.hid hlc
  clear hp hc hg hl hl64 hlc h01
  go_enter Try.func29, Try.ntmps29
  go_wp2_with fail
  refine (C2.out _ (by repeat (first | with_reducible assumption | with_reducible exact Below.refl _ _ | with_reducible apply Below.drew | (with_reducible refine Below.alloc ?_ (by first | omega | (simp only [World.size_alloc, size_setCell, size_drew, size_drewN]; omega) | (dsimp only; omega) | (simp only [World.size_alloc, size_setCell, size_drew, size_drewN]; dsimp only; omega)) _) | (with_reducible refine Below.setCell ?_ (by first | omega | (simp only [World.size_alloc, size_setCell, size_drew, size_drewN]; omega) | (dsimp only; omega) | (simp only [World.size_alloc, size_setCell, size_drew, size_drewN]; dsimp only; omega)) _)))).mono ?_
  rintro e w1 ⟨⟨rv, rfl, hrv⟩, hb1⟩
  obtain ⟨rl, rn, rk, rad, rcap, rfl⟩ := hrv.shape
  have hB1 : Below w.heap.size w w1 := Below.trans (by repeat (first | with_reducible assumption | with_reducible exact Below.refl _ _ | with_reducible apply Below.drew | (with_reducible refine Below.alloc ?_ (by first | omega | (simp only [World.size_alloc, size_setCell, size_drew, size_drewN]; omega) | (dsimp only; omega) | (simp only [World.size_alloc, size_setCell, size_drew, size_drewN]; dsimp only; omega)) _) | (with_reducible refine Below.setCell ?_ (by first | omega | (simp only [World.size_alloc, size_setCell, size_drew, size_drewN]; omega) | (dsimp only; omega) | (simp only [World.size_alloc, size_setCell, size_drew, size_drewN]; dsimp only; omega)) _))) (hb1.mono (by first | omega | (simp only [World.size_alloc, size_setCell, size_drew, size_drewN]; omega) | (dsimp only; omega) | (simp only [World.size_alloc, size_setCell, size_drew, size_drewN]; dsimp only; omega)))
  have x2 := ((Blk.new w #[.int .i64 gk, .int .i64 ga, .int .i64 gb, .slice gad gn gcap] 43).alloc (.cells #[.slice lad l.length lcap] 38)).ext hb1
  have x3 := (Blk.new (w.alloc (.cells #[.int .i64 gk, .int .i64 ga, .int .i64 gb, .slice gad gn gcap] 43)) #[.slice lad l.length lcap] 38).ext hb1
  simp only [World.size_alloc] at x3
  have hz1 := hb1.size
  simp only [World.size_alloc] at hz1
  have f0 := x3.cell 0
  simp only [List.getElem?_toArray, List.getElem?_cons_succ, List.getElem?_cons_zero] at f0
  have hl3 := x3.lt
  clear hb1 hrv C2
  have f0' : ((w1.alloc (.cells #[.bool rl, .int .i64 rn, .slice rad rk rcap] 48)).alloc (.cells #[.slice none 0 0] 61)).cell? ⟨w.heap.size + 1, 0, none⟩ = some (.slice lad l.length lcap) := by
    have := ((x3.alloc (.cells #[.bool rl, .int .i64 rn, .slice rad rk rcap] 48)).alloc (.cells #[.slice none 0 0] 61)).cell 0
    simpa using this
  go_wp2_with fail
  have y2 := (x2.alloc (.cells #[.bool rl, .int .i64 rn, .slice rad rk rcap] 48)).alloc (.cells #[.slice none 0 0] 61)
  have y3 := (x3.alloc (.cells #[.bool rl, .int .i64 rn, .slice rad rk rcap] 48)).alloc (.cells #[.slice none 0 0] 61)
  have y8 := Blk.new (w1.alloc (.cells #[.bool rl, .int .i64 rn, .slice rad rk rcap] 48)) #[.slice none 0 0] 61
  have hBW : Below w.heap.size w ((w1.alloc (.cells #[.bool rl, .int .i64 rn, .slice rad rk rcap] 48)).alloc (.cells #[.slice none 0 0] 61)) := by repeat (first | with_reducible assumption | with_reducible exact Below.refl _ _ | with_reducible apply Below.drew | (with_reducible refine Below.alloc ?_ (by first | omega | (simp only [World.size_alloc, size_setCell, size_drew, size_drewN]; omega) | (dsimp only; omega) | (simp only [World.size_alloc, size_setCell, size_drew, size_drewN]; dsimp only; omega)) _) | (with_reducible refine Below.setCell ?_ (by first | omega | (simp only [World.size_alloc, size_setCell, size_drew, size_drewN]; omega) | (dsimp only; omega) | (simp only [World.size_alloc, size_setCell, size_drew, size_drewN]; dsimp only; omega)) _))
  have hzW : ((w1.alloc (.cells #[.bool rl, .int .i64 rn, .slice rad rk rcap] 48)).alloc (.cells #[.slice none 0 0] 61)).heap.size = w1.heap.size + 2 := by simp
  simp only [World.size_alloc] at y8
  have hI : Hid (RoseI g l w (.slice lad l.length lcap) gk ga gb gn gcap gad (w1.heap.size + 2) w.heap.size (w.heap.size + 1) (w1.heap.size + 1) (lessUp g l 0) (.slice none 0 0) ((w1.alloc (.cells #[.bool rl, .int .i64 rn, .slice rad rk rcap] 48)).alloc (.cells #[.slice none 0 0] 61))) :=
    ⟨⟨y8, OwnRw.nil _ _ _ _⟩, y2, y3, hBW, by omega⟩
  clear x2 x3 y2 y3 y8 hBW hzW f0 f0' hl3 hB1
  generalize (w1.alloc (.cells #[.bool rl, .int .i64 rn, .slice rad rk rcap] 48)).alloc (.cells #[.slice none 0 0] 61) = W at *
  generalize w1.heap.size = z1 at *
  go_loopw [30] (fun i wr => ∃ (j : Nat) (ov : Value), j ≤ l.length ∧ i = .int .i64 j ∧ RoseI g l w (.slice lad l.length lcap) gk ga gb gn gcap gad (z1 + 2) w.heap.size (w.heap.size + 1) (z1 + 1) (lessUp g l j) ov wr) (fun i _ => l.length - (intOf i).toNat)
  case atStart => exact ⟨0, _, by omega, rfl, hI.out⟩
  case round =>
    obtain ⟨j, ov, hj, rfl, hR⟩ := hrel
    obtain ⟨wo, rfl⟩ : ∃ wo : World, wo = wr := ⟨_, rfl⟩
    clear hI
    have HR := Lib.hid hR
    have hbr := hR.below
    have hzr := hbr.size
    have hlos := hR.los
    have y3 := hR.b3
    clear hR
    by_cases hlt : j < l.length
    · have q1 : (j : Int) < (l.length : Int) := by omega
      have q0 : (0 : Int) ≤ (j : Int) := by omega
      obtain ⟨lbl, loff, rfl, hlb, hlcc⟩ := HLC.out (by omega)
      have hcx := (hbr.cell (p := ⟨lbl, _, none⟩) hlb).trans (hlcc j hlt)
      have hx01 := H01.out (l.getD j 0) (by rw [List.getD_eq_getElem?_getD, List.getElem?_eq_getElem hlt]; exact List.getElem_mem hlt)
      have HTR : Hid (tries l j = (if 0 < l.getD j 0 then [l.set j 0, l.set j (l.getD j 0 / 2), l.set j (l.getD j 0 - 1)] else []) ++ [l.eraseIdx j]) := rfl
      generalize l.getD j 0 = x at *
      have hx0 := hx01.1
      have hx1 := hx01.2
      clear hlcc hx01
      have f0 := y3.cell 0
      simp only [List.getElem?_toArray, List.getElem?_cons_succ, List.getElem?_cons_zero] at f0
      have hl3 := y3.lt
      by_cases hx : 0 < x
      · have HTR2 : Hid (tries l j = [l.set j 0, l.set j (x / 2), l.set j (x - 1)] ++ [l.eraseIdx j]) := by have := HTR.out; rw [if_pos hx] at this; exact this
        go_wp2_with fail
        refine (with_any l _ j 0 _ _ hlt (by omega) ⟨by omega, by omega⟩ y3 (HL.out.ext hbr)).mono ?_
        rintro e w2 ⟨⟨u1, rfl, hu1⟩, hb2⟩
        have hB2 : Below wo.heap.size wo w2 := hb2
        have y32 := y3.ext hb2
        have hz2 := hb2.size
        clear f0 hb2
        go_wp2_with fail
        refine (with_any l _ j (x / 2) _ _ hlt (by omega) ⟨by omega, by omega⟩ y32 (HL.out.ext (hbr.trans (hB2.mono hzr)))).mono ?_
        rintro e w3 ⟨⟨u2, rfl, hu2⟩, hb3⟩
        have hB3 : Below wo.heap.size wo w3 := hB2.trans (hb3.mono hz2)
        have y33 := y32.ext hb3
        have hz3 := hB3.size
        have hz32 := hb3.size
        have hu13 := hu1.keepB hb3
        clear hb3 hu1
        go_wp2_with fail
        refine (with_any l _ j (x - 1) _ _ hlt (by omega) ⟨by omega, by omega⟩ y33 (HL.out.ext (hbr.trans (hB3.mono hzr)))).mono ?_
        rintro e w4 ⟨⟨u3, rfl, hu3⟩, hb4⟩
        have hB4 : Below wo.heap.size wo w4 := hB3.trans (hb4.mono hz3)
        have hz4 := hB4.size
        have hu14 := Lib.hid (hu13.keepB hb4)
        have hu24 := Lib.hid ((hu2.keepB hb4).mono (S' := fun b => wo.heap.size ≤ b) (fun b hb _ => by omega))
        have hu34 := Lib.hid (hu3.mono (S' := fun b => wo.heap.size ≤ b) (fun b hb _ => by omega))
        obtain ⟨a1, n1, c1, rfl⟩ : ∃ a n c, u1 = .slice a n c := by obtain ⟨_, a, c, e, _⟩ := hu13; exact ⟨_, _, _, e⟩
        obtain ⟨a2, n2, c2, rfl⟩ : ∃ a n c, u2 = .slice a n c := by obtain ⟨_, a, c, e, _⟩ := hu2; exact ⟨_, _, _, e⟩
        obtain ⟨a3, n3, c3, rfl⟩ : ∃ a n c, u3 = .slice a n c := by obtain ⟨_, a, c, e, _⟩ := hu3; exact ⟨_, _, _, e⟩
        have y34 := y33.ext hb4
        clear hu13 hu2 hu3 hb4 y32 y33
        have f0 := y34.cell 0
        simp only [List.getElem?_toArray, List.getElem?_cons_succ, List.getElem?_cons_zero] at f0
        have hl34 := y34.lt
        have HY := Lib.hid y34
        clear y34 y3
        go_wp2_with (at_builtin; refine append_three IntsS.reads (base := wo.heap.size) (o := ⟨some 52, _, _, _, _, _⟩) rfl _ _ 61 38 rfl Try.underlying61 info_ints rfl rfl (Blk.newAt rfl) (hu14.out.keepB ((Below.refl _ _).alloc (Nat.le_refl _) _)) (hu24.out.keepB ((Below.refl _ _).alloc (Nat.le_refl _) _)) (hu34.out.keepB ((Below.refl _ _).alloc (Nat.le_refl _) _)) (by simp; omega) ?_; intro tv w4b k1 k2; obtain ⟨tad, tn, tcap, rfl⟩ : ∃ a n c, tv = .slice a n c := (by obtain ⟨a, c, e, _⟩ := k1.form; exact ⟨_, _, _, e⟩); have hB4b : Below wo.heap.size wo w4b := (hB4.alloc (by omega) _).trans (k2.mono (by simp; omega)); have f9 := (((HY.out.alloc (.cells #[.slice a1 n1 c1, .slice a2 n2 c2, .slice a3 n3 c3] 38)).ext k2)).cell 0; simp only [List.getElem?_toArray, List.getElem?_cons_zero] at f9; have hz9 := hB4b.size; have HT4 := Lib.hid k1; have HB4 := Lib.hid hB4b; clear k1 k2 hB4b)
        refine (clone_any l _ _ (by omega) (HL.out.ext (hbr.trans (HB4.out.mono hzr)))).mono ?_
        rintro e w5 ⟨⟨cu, rfl, hcu⟩, hb5⟩
        have hz5 := hb5.size
        have hcul := hcu.lo
        have C6 := Lib.hid (delete_any l j hlt cu w5 _ hcu HL.out.1)
        obtain ⟨cad, cn5, ccap, rfl⟩ : ∃ a n c, cu = .slice a n c := by obtain ⟨a, c, e, _⟩ := (hcu.at HL.out.1).form; exact ⟨_, _, _, e⟩
        have HB5 := Lib.hid hb5
        have HCU := Lib.hid hcul
        clear hcu hcul f9 hb5
        go_wp2_with fail
        refine C6.out.mono ?_
        rintro e w6 ⟨⟨du, rfl, hdu⟩, hg6⟩
        have hB6 : Below w4b.heap.size w4b w6 := HB5.out.grown hg6 HB5.out.size (fun k hk => (HCU.out k hk).1)
        have hTT6 := HT4.out.keep IntsS.reads hB6
        have hz6 := hB6.size
        have hzq := HB4.out.size
        have hdu6 : Hid (IntsS w6 (fun b => wo.heap.size ≤ b ∧ (Value.slice tad tn tcap).ownBlock ≠ some b) du (l.eraseIdx j)) := hdu.mono (fun b hb _ => by
          have h1 := (HCU.out b hb).1
          exact ⟨by omega, fun e => by have := HT4.out.lt b e; omega⟩)
        obtain ⟨dad, dn, dcap, rfl⟩ : ∃ a n c, du = .slice a n c := by obtain ⟨_, a, c, e, _⟩ := hdu; exact ⟨_, _, _, e⟩
        have HT6 := Lib.hid hTT6
        have HB6 : Hid (Below wo.heap.size wo w6) := HB4.out.trans (hB6.mono hzq)
        clear hdu hg6 hTT6 hB6 hzq
        go_wp2_with (at_builtin; refine append_rw IntsS.reads (v := .slice tad tn tcap) (o := ⟨some 61, _, _, _, _, _⟩) (y := l.eraseIdx j) rfl _ _ 61 38 rfl Try.underlying61 info_ints rfl (HT6.out.keep IntsS.reads (by repeat (first | with_reducible assumption | with_reducible exact Below.refl _ _ | with_reducible apply Below.drew | (with_reducible refine Below.alloc ?_ (by first | omega | (simp only [World.size_alloc, size_setCell, size_drew, size_drewN]; omega) | (dsimp only; omega) | (simp only [World.size_alloc, size_setCell, size_drew, size_drewN]; dsimp only; omega)) _) | (with_reducible refine Below.setCell ?_ (by first | omega | (simp only [World.size_alloc, size_setCell, size_drew, size_drewN]; omega) | (dsimp only; omega) | (simp only [World.size_alloc, size_setCell, size_drew, size_drewN]; dsimp only; omega)) _)))) rfl (Blk.newAt rfl) (hdu6.out.keepB ((Below.refl _ _).alloc (Nat.le_refl _) _)) (by simp) (by simp; omega) ?_; intro v7 w7 k1 k2 k3; have hB7 : Below wo.heap.size wo w7 := (HB6.out.alloc (by omega) _).grown k2 (by simp; omega) (fun k hk => (HT6.out.lt k hk).1); have HT7 : Hid (OwnRw IntsS 38 w7 wo.heap.size v7 (tries l j)) := (by rw [HTR2.out]; exact k1); obtain ⟨vad, vcap, rfl, hvl, hvm, hvn, hvc⟩ := HT7.out.at IntsS.reads; have HVC := Lib.hid hvc; have HB7 := Lib.hid hB7; clear k1 k2 k3 hvc hB7)
        have hz7 := HB7.out.size
        have HR7 := Lib.hid (HR.out.ext HB7.out)
        have htl := (tries_len l j).1
        have htl1 := (tries_len l j).2
        have HW7 : Hid (RwAt IntsS w7 (fun b => wo.heap.size ≤ b ∧ b < w7.heap.size) (.slice vad (tries l j).length vcap) (tries l j)) := (HT7.out.at IntsS.reads).keep IntsS.reads (Nat.le_refl _) (fun b hb hl => ⟨⟨hb, hl⟩, rfl⟩)
        have hovl : Hid (∀ b, ov.ownBlock = some b → b < wo.heap.size) := fun b e => (HR.out.out.own.lt b e).2
        unfold maxLen at hvm
        obtain ⟨Tn, hTn⟩ : ∃ Tn, Tn = (tries l j).length := ⟨_, rfl⟩
        rw [← hTn] at hvl htl htl1
        rw [← hTn]
        have HTN := Lib.hid hTn
        clear hTn
        go_loopw [63] (fun i w8 => ∃ (m : Nat) (ov8 : Value), m ≤ Tn ∧ i = .int .i64 m ∧ RoseI g l w (.slice (some ⟨lbl, loff, none⟩) l.length lcap) gk ga gb gn gcap gad (z1 + 2) w.heap.size (w.heap.size + 1) (z1 + 1) (lessUp g l j ++ keep g l ((tries l j).take m)) ov8 w8 ∧ RwAt IntsS w8 (fun b => wo.heap.size ≤ b ∧ b < w7.heap.size) (.slice vad (tries l j).length vcap) (tries l j) ∧ w7.heap.size ≤ w8.heap.size ∧ Hid (∀ b, ov8.ownBlock = some b → b < wo.heap.size ∨ w7.heap.size ≤ b)) (fun i _ => Tn - (intOf i).toNat)
        case atStart => exact ⟨0, ov, by omega, rfl, by rw [List.take_zero, keep_nil, List.append_nil]; exact HR7.out, HW7.out, Nat.le_refl _, fun b e => .inl (hovl.out b e)⟩
        case round =>
          obtain ⟨m, ov8, hm, rfl, hR8, hW8, hz8, hov8⟩ := hrel
          by_cases hltm : m < Tn
          · have r1 : (m : Int) < (Tn : Int) := by omega
            have r0 : (0 : Int) ≤ (m : Int) := by omega
            have hmT : m < (tries l j).length := by rw [← HTN.out]; exact hltm
            obtain ⟨ad8, cap8, e8, _, _, _, hc8⟩ := hW8
            simp only [Value.slice.injEq] at e8
            obtain ⟨rfl, _, rfl⟩ := e8
            obtain ⟨tbl, toff, rfl, ht1, ht2, htc⟩ := hc8 (by omega)
            obtain ⟨mv, hmv, hmR⟩ := htc m hmT
            have HW8 : Hid (RwAt IntsS wr (fun b => wo.heap.size ≤ b ∧ b < w7.heap.size) (.slice (some ⟨tbl, toff, none⟩) (tries l j).length vcap) (tries l j)) := ⟨_, _, rfl, by omega, by unfold maxLen; omega, (fun e => by cases e), fun _ => ⟨tbl, toff, rfl, ht1, ht2, htc⟩⟩
            have HR8 := Lib.hid hR8
            have CT := Lib.hid (try_any g l ((tries l j)[m]) HC.out _ _ mv (z1 + 2) w.heap.size (w.heap.size + 1) (z1 + 1) ov8 _ wr (by
              have h1 := lessUp_len g l j
              have h2 := keep_len g l ((tries l j).take m)
              simp at h2 ⊢
              omega) (by omega) hR8.los (HG.out.ext hR8.below) (fun _ _ _ _ _ _ e => by
                simp only [Value.agg.injEq] at e
                rw [← e]; exact hR8.b2) (HL.out.ext hR8.below) hR8.b3 hmR.at hR8.out)
            have hkk : keep g l ((tries l j).take (m + 1)) = keep g l ((tries l j).take m) ++ keep g l [(tries l j)[m]] := by
              rw [List.take_add_one, List.getElem?_eq_getElem hmT, keep_append]; rfl
            have HKK := Lib.hid hkk
            obtain ⟨ma, mn, mc, rfl⟩ : ∃ a n c, mv = .slice a n c := by obtain ⟨_, a, c, e, _⟩ := hmR; exact ⟨_, _, _, e⟩
            have HPH : Hid (z1 + 2 ≤ wo.heap.size) := hlos
            clear hR8 hc8 htc hmR hkk
            go_wp2_with fail
            refine CT.out.mono ?_
            rintro e w9 ⟨rfl, ov9, ho9, hf9⟩
            have hR9 := HR8.out.next (Nat.le_refl _) (by omega) (by omega) (by omega) ho9 hf9
            have hz9 := hf9.size
            have hW9 := HW8.out.keep IntsS.reads hz9 (S' := fun b => wo.heap.size ≤ b ∧ b < w7.heap.size) (fun b hb hl => ⟨hb, hf9.blk b hl (by have := HPH.out; omega) (fun e => by rcases hov8.out b e with h | h <;> omega)⟩)
            have hov9 : Hid (∀ b, ov9.ownBlock = some b → b < wo.heap.size ∨ w7.heap.size ≤ b) := fun b hb => by
              rcases hf9.new with e | e
              · rw [e] at hb; exact hov8.out b hb
              · exact .inr (by have := e b hb; omega)
            rw [List.append_assoc, ← HKK.out] at hR9
            have H9 := Lib.hid (And.intro hR9 hW9)
            clear ho9 hf9 hR9 hW9
            go_wp2_with fail
            exact ⟨⟨m + 1, ov9, by omega, by go_num, H9.out.1, H9.out.2, by omega, hov9⟩, by simp [intOf]; omega⟩
          · have r1 : ¬ (m : Int) < (Tn : Int) := by omega
            have hmT : m = (tries l j).length := by have := HTN.out; omega
            rw [hmT, List.take_length] at hR8
            have HR8 := Lib.hid hR8
            clear hR8 hW8 hmT
            go_wp2_with fail
            exact ⟨⟨j + 1, ov8, by omega, by go_num, HR8.out⟩, by simp [intOf]; omega⟩
      · have HTR2 : Hid (tries l j = [] ++ [l.eraseIdx j]) := by have := HTR.out; rw [if_neg hx] at this; exact this
        have HT4 : Hid (OwnRw IntsS 38 wo wo.heap.size (.slice none 0 0) []) := OwnRw.nil _ _ _ _
        have HB4 : Hid (Below wo.heap.size wo wo) := Below.refl _ _
        go_wp2_with fail
        refine (clone_any l _ _ (by omega) (HL.out.ext (hbr.trans (HB4.out.mono hzr)))).mono ?_
        rintro e w5 ⟨⟨cu, rfl, hcu⟩, hb5⟩
        have hz5 := hb5.size
        have hcul := hcu.lo
        have C6 := Lib.hid (delete_any l j hlt cu w5 _ hcu HL.out.1)
        obtain ⟨cad, cn5, ccap, rfl⟩ : ∃ a n c, cu = .slice a n c := by obtain ⟨a, c, e, _⟩ := (hcu.at HL.out.1).form; exact ⟨_, _, _, e⟩
        have HB5 := Lib.hid hb5
        have HCU := Lib.hid hcul
        clear hcu hcul f0 hb5
        go_wp2_with fail
        refine C6.out.mono ?_
        rintro e w6 ⟨⟨du, rfl, hdu⟩, hg6⟩
        have hB6 : Below wo.heap.size wo w6 := HB5.out.grown hg6 HB5.out.size (fun k hk => (HCU.out k hk).1)
        have hTT6 := HT4.out.keep IntsS.reads hB6
        have hz6 := hB6.size
        have hzq := HB4.out.size
        have hdu6 : Hid (IntsS w6 (fun b => wo.heap.size ≤ b ∧ (Value.slice none 0 0).ownBlock ≠ some b) du (l.eraseIdx j)) := hdu.mono (fun b hb _ => by
          have h1 := (HCU.out b hb).1
          exact ⟨by omega, fun e => by have := HT4.out.lt b e; omega⟩)
        obtain ⟨dad, dn, dcap, rfl⟩ : ∃ a n c, du = .slice a n c := by obtain ⟨_, a, c, e, _⟩ := hdu; exact ⟨_, _, _, e⟩
        have HT6 := Lib.hid hTT6
        have HB6 : Hid (Below wo.heap.size wo w6) := HB4.out.trans (hB6.mono hzq)
        clear hdu hg6 hTT6 hB6 hzq
        go_wp2_with (at_builtin; refine append_rw IntsS.reads (v := .slice none 0 0) (o := ⟨some 61, _, _, _, _, _⟩) (y := l.eraseIdx j) rfl _ _ 61 38 rfl Try.underlying61 info_ints rfl (HT6.out.keep IntsS.reads (by repeat (first | with_reducible assumption | with_reducible exact Below.refl _ _ | with_reducible apply Below.drew | (with_reducible refine Below.alloc ?_ (by first | omega | (simp only [World.size_alloc, size_setCell, size_drew, size_drewN]; omega) | (dsimp only; omega) | (simp only [World.size_alloc, size_setCell, size_drew, size_drewN]; dsimp only; omega)) _) | (with_reducible refine Below.setCell ?_ (by first | omega | (simp only [World.size_alloc, size_setCell, size_drew, size_drewN]; omega) | (dsimp only; omega) | (simp only [World.size_alloc, size_setCell, size_drew, size_drewN]; dsimp only; omega)) _)))) rfl (Blk.newAt rfl) (hdu6.out.keepB ((Below.refl _ _).alloc (Nat.le_refl _) _)) (by simp) (by simp; omega) ?_; intro v7 w7 k1 k2 k3; have hB7 : Below wo.heap.size wo w7 := (HB6.out.alloc (by omega) _).grown k2 (by simp; omega) (fun k hk => (HT6.out.lt k hk).1); have HT7 : Hid (OwnRw IntsS 38 w7 wo.heap.size v7 (tries l j)) := (by rw [HTR2.out]; exact k1); obtain ⟨vad, vcap, rfl, hvl, hvm, hvn, hvc⟩ := HT7.out.at IntsS.reads; have HVC := Lib.hid hvc; have HB7 := Lib.hid hB7; clear k1 k2 k3 hvc hB7)
        have hz7 := HB7.out.size
        have HR7 := Lib.hid (HR.out.ext HB7.out)
        have htl := (tries_len l j).1
        have htl1 := (tries_len l j).2
        have HW7 : Hid (RwAt IntsS w7 (fun b => wo.heap.size ≤ b ∧ b < w7.heap.size) (.slice vad (tries l j).length vcap) (tries l j)) := (HT7.out.at IntsS.reads).keep IntsS.reads (Nat.le_refl _) (fun b hb hl => ⟨⟨hb, hl⟩, rfl⟩)
        have hovl : Hid (∀ b, ov.ownBlock = some b → b < wo.heap.size) := fun b e => (HR.out.out.own.lt b e).2
        unfold maxLen at hvm
        obtain ⟨Tn, hTn⟩ : ∃ Tn, Tn = (tries l j).length := ⟨_, rfl⟩
        rw [← hTn] at hvl htl htl1
        rw [← hTn]
        have HTN := Lib.hid hTn
        clear hTn
        go_loopw [63] (fun i w8 => ∃ (m : Nat) (ov8 : Value), m ≤ Tn ∧ i = .int .i64 m ∧ RoseI g l w (.slice (some ⟨lbl, loff, none⟩) l.length lcap) gk ga gb gn gcap gad (z1 + 2) w.heap.size (w.heap.size + 1) (z1 + 1) (lessUp g l j ++ keep g l ((tries l j).take m)) ov8 w8 ∧ RwAt IntsS w8 (fun b => wo.heap.size ≤ b ∧ b < w7.heap.size) (.slice vad (tries l j).length vcap) (tries l j) ∧ w7.heap.size ≤ w8.heap.size ∧ Hid (∀ b, ov8.ownBlock = some b → b < wo.heap.size ∨ w7.heap.size ≤ b)) (fun i _ => Tn - (intOf i).toNat)
        case atStart => exact ⟨0, ov, by omega, rfl, by rw [List.take_zero, keep_nil, List.append_nil]; exact HR7.out, HW7.out, Nat.le_refl _, fun b e => .inl (hovl.out b e)⟩
        case round =>
          obtain ⟨m, ov8, hm, rfl, hR8, hW8, hz8, hov8⟩ := hrel
          by_cases hltm : m < Tn
          · have r1 : (m : Int) < (Tn : Int) := by omega
            have r0 : (0 : Int) ≤ (m : Int) := by omega
            have hmT : m < (tries l j).length := by rw [← HTN.out]; exact hltm
            obtain ⟨ad8, cap8, e8, _, _, _, hc8⟩ := hW8
            simp only [Value.slice.injEq] at e8
            obtain ⟨rfl, _, rfl⟩ := e8
            obtain ⟨tbl, toff, rfl, ht1, ht2, htc⟩ := hc8 (by omega)
            obtain ⟨mv, hmv, hmR⟩ := htc m hmT
            have HW8 : Hid (RwAt IntsS wr (fun b => wo.heap.size ≤ b ∧ b < w7.heap.size) (.slice (some ⟨tbl, toff, none⟩) (tries l j).length vcap) (tries l j)) := ⟨_, _, rfl, by omega, by unfold maxLen; omega, (fun e => by cases e), fun _ => ⟨tbl, toff, rfl, ht1, ht2, htc⟩⟩
            have HR8 := Lib.hid hR8
            have CT := Lib.hid (try_any g l ((tries l j)[m]) HC.out _ _ mv (z1 + 2) w.heap.size (w.heap.size + 1) (z1 + 1) ov8 _ wr (by
              have h1 := lessUp_len g l j
              have h2 := keep_len g l ((tries l j).take m)
              simp at h2 ⊢
              omega) (by omega) hR8.los (HG.out.ext hR8.below) (fun _ _ _ _ _ _ e => by
                simp only [Value.agg.injEq] at e
                rw [← e]; exact hR8.b2) (HL.out.ext hR8.below) hR8.b3 hmR.at hR8.out)
            have hkk : keep g l ((tries l j).take (m + 1)) = keep g l ((tries l j).take m) ++ keep g l [(tries l j)[m]] := by
              rw [List.take_add_one, List.getElem?_eq_getElem hmT, keep_append]; rfl
            have HKK := Lib.hid hkk
            obtain ⟨ma, mn, mc, rfl⟩ : ∃ a n c, mv = .slice a n c := by obtain ⟨_, a, c, e, _⟩ := hmR; exact ⟨_, _, _, e⟩
            have HPH : Hid (z1 + 2 ≤ wo.heap.size) := hlos
            clear hR8 hc8 htc hmR hkk
            go_wp2_with fail
            refine CT.out.mono ?_
            rintro e w9 ⟨rfl, ov9, ho9, hf9⟩
            have hR9 := HR8.out.next (Nat.le_refl _) (by omega) (by omega) (by omega) ho9 hf9
            have hz9 := hf9.size
            have hW9 := HW8.out.keep IntsS.reads hz9 (S' := fun b => wo.heap.size ≤ b ∧ b < w7.heap.size) (fun b hb hl => ⟨hb, hf9.blk b hl (by have := HPH.out; omega) (fun e => by rcases hov8.out b e with h | h <;> omega)⟩)
            have hov9 : Hid (∀ b, ov9.ownBlock = some b → b < wo.heap.size ∨ w7.heap.size ≤ b) := fun b hb => by
              rcases hf9.new with e | e
              · rw [e] at hb; exact hov8.out b hb
              · exact .inr (by have := e b hb; omega)
            rw [List.append_assoc, ← HKK.out] at hR9
            have H9 := Lib.hid (And.intro hR9 hW9)
            clear ho9 hf9 hR9 hW9
            go_wp2_with fail
            exact ⟨⟨m + 1, ov9, by omega, by go_num, H9.out.1, H9.out.2, by omega, hov9⟩, by simp [intOf]; omega⟩
          · have r1 : ¬ (m : Int) < (Tn : Int) := by omega
            have hmT : m = (tries l j).length := by have := HTN.out; omega
            rw [hmT, List.take_length] at hR8
            have HR8 := Lib.hid hR8
            clear hR8 hW8 hmT
            go_wp2_with fail
            exact ⟨⟨j + 1, ov8, by omega, by go_num, HR8.out⟩, by simp [intOf]; omega⟩
    · have q1 : ¬ (j : Int) < (l.length : Int) := by omega
      obtain rfl : j = l.length := by omega
      have z8 := HR.out.out.blk
      have f0 := z8.cell 0
      simp only [List.getElem?_toArray, List.getElem?_cons_succ, List.getElem?_cons_zero] at f0
      have HF : Hid (RwAt IntsS wo (fun b => w.heap.size ≤ b) ov (lessR g l)) := (HR.out.out.own.at IntsS.reads).keep IntsS.reads (Nat.le_refl _) (fun b hb _ => ⟨by omega, rfl⟩)
      obtain ⟨oa, on, oc, rfl⟩ : ∃ a n c, ov = .slice a n c := by obtain ⟨a, c, e, _⟩ := HR.out.out.own.form; exact ⟨_, _, _, e⟩
      go_wp2_with fail
      go_ret2
      exact ⟨⟨_, rfl, HF.out⟩, hbr⟩
end Go.Proofs.Ytjobgkcoblpbcaa
