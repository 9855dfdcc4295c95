/- The walk through Replay. -/
import Derived.Test.YtcecpggkeaohnaaDoorPlay1
import Derived.Deep.DeepCutAuto
namespace Go.Proofs.YtcecpggkeaohnaaDoor
set_option maxRecDepth 100000
open Go.RowKit
set_option linter.unusedSimpArgs false
set_option linter.unusedVariables false
namespace GT
theorem play_err {σ : Type} (st : Int → σ → Except Int (Int × σ)) (P : Int → Prop) (hst : ∀ m q e, st m q = .error e → P e) (hbd : ∀ m q c q', 0 ≤ m → st m q = .ok (c, q') → 0 ≤ c ∧ c ≤ m) (g : GT) : eachErr g = 0 → ∀ q e, play st g q = .error e → P e := by
  induction g using GT.ind with
  | h k a b s ih =>
    intro he q e h
    have hk := ok_kids he
    have hI : ∀ x ∈ s, ∀ q e, play st x q = .error e → P e := fun x hx => ih x hx (hk x hx)
    rcases one_cases (ok_one he) with ⟨rfl, h1, h2, h3⟩ | ⟨rfl, h0, h0', h1, h2, h3⟩ | rfl | ⟨rfl, h1, h2, h3⟩ | ⟨rfl, h1⟩
    · simp [play] at h
    · simp only [play, show ¬ ((2:Int) = 1) by decide, if_false, if_true] at h
      cases hq : st (b - a) q with
      | error e1 => rw [hq] at h; simp only [Except.error.injEq] at h; rw [← h]; exact hst _ _ _ hq
      | ok r => rw [hq] at h; simp at h
    · have hL : ∀ (l : List GT), (∀ x ∈ l, x ∈ s) → ∀ q e, playL st l q = .error e → P e := by
        intro l
        induction l with
        | nil => intro _ q e h; simp [playL] at h
        | cons x l ihl =>
          intro hx q e h
          simp only [playL] at h
          cases hq : play st x q with
          | error e1 => rw [hq] at h; simp only [Except.error.injEq] at h; rw [← h]; exact hI x (hx x (by simp)) q e1 hq
          | ok r =>
            obtain ⟨v, q1⟩ := r
            rw [hq] at h
            simp only at h
            cases hq1 : playL st l q1 with
            | error e1 => rw [hq1] at h; simp only [Except.error.injEq] at h; rw [← h]; exact ihl (fun y hy => hx y (by simp [hy])) q1 e1 hq1
            | ok r => rw [hq1] at h; simp at h
      simp only [play, show ¬ ((3:Int) = 1) by decide, show ¬ ((3:Int) = 2) by decide, if_false, if_true] at h
      cases hq : playL st s q with
      | error e1 => rw [hq] at h; simp only [Except.error.injEq] at h; rw [← h]; exact hL s (fun x hx => hx) q e1 hq
      | ok r => rw [hq] at h; simp at h
    · simp only [play, show ¬ ((4:Int) = 1) by decide, show ¬ ((4:Int) = 2) by decide, show ¬ ((4:Int) = 3) by decide, if_false, if_true] at h
      cases hq : st a q with
      | error e1 => rw [hq] at h; simp only [Except.error.injEq] at h; rw [← h]; exact hst _ _ _ hq
      | ok r =>
        obtain ⟨c, q1⟩ := r
        rw [hq] at h
        simp only at h
        match s, h1, hI, h with
        | [y], _, hI, h =>
          simp only [playN] at h
          have hT : ∀ n q e, times (fun q => play st y q) n q = .error e → P e := by
            intro n
            induction n with
            | zero => intro q e h; simp [times] at h
            | succ n ihn =>
              intro q e h
              simp only [times] at h
              cases hq : play st y q with
              | error e1 => rw [hq] at h; simp only [Except.error.injEq] at h; rw [← h]; exact hI y (by simp) q e1 hq
              | ok r =>
                obtain ⟨v, q1⟩ := r
                rw [hq] at h
                simp only at h
                cases hq1 : times (fun q => play st y q) n q1 with
                | error e1 => rw [hq1] at h; simp only [Except.error.injEq] at h; rw [← h]; exact ihn q1 e1 hq1
                | ok r => rw [hq1] at h; simp at h
          cases hq1 : times (fun q => play st y q) c.toNat q1 with
          | error e1 => rw [hq1] at h; simp only [Except.error.injEq] at h; rw [← h]; exact hT _ q1 e1 hq1
          | ok r => rw [hq1] at h; simp at h
    · simp only [play, show ¬ ((5:Int) = 1) by decide, show ¬ ((5:Int) = 2) by decide, show ¬ ((5:Int) = 3) by decide, show ¬ ((5:Int) = 4) by decide, if_false, if_true] at h
      cases hq : st (s.length - 1) q with
      | error e1 => rw [hq] at h; simp only [Except.error.injEq] at h; rw [← h]; exact hst _ _ _ hq
      | ok r =>
        obtain ⟨c, q1⟩ := r
        rw [hq] at h
        have hc := hbd _ _ _ _ (by omega) hq
        have hi : c.toNat < s.length := by omega
        simp only at h
        rw [playI_get st s c.toNat hi] at h
        exact hI s[c.toNat] (List.getElem_mem hi) q1 e h
end GT
def zeroV : VT := .mk false 0 []
/-- What Replay answers: a value, an error's number. -/
def playR (g : GT) (tape : List Int) : VT × Int := if GT.check g = 0 then (match GT.play (stPlay tape) g 0 with
  | .error e => (zeroV, e)
  | .ok (v, i) => if i < tape.length then (zeroV, 3) else (v, 0)) else (zeroV, GT.check g)
theorem stPlay_err {tape : List Int} {m : Int} {q : Nat} {e : Int} (h : stPlay tape m q = .error e) : e = 1 ∨ e = 5 := by
  unfold stPlay at h
  split at h
  · split at h
    · simp only [Except.error.injEq] at h; exact .inl h.symm
    · cases h
  · simp only [Except.error.injEq] at h; exact .inr h.symm
theorem set3 {w : World} {p : Nat} {o0 o1 o2 : Value} {t : TypeId} (h : Blk w p #[o0, o1, o2] t) (c0 c1 c2 : Value) : Blk (((w.setCell ⟨p, 0, none⟩ c0).setCell ⟨p, 1, none⟩ c1).setCell ⟨p, 2, none⟩ c2) p #[c0, c1, c2] t := by
  have := ((h.set 0 c0).set 1 c1).set 2 c2
  simpa only [List.setIfInBounds_toArray, List.set_cons_zero, List.set_cons_succ] using this
theorem set3_oth {w : World} {p q : Nat} {cs : Array Value} {t : TypeId} (h : Blk w q cs t) (hne : q ≠ p) (c0 c1 c2 : Value) : Blk (((w.setCell ⟨p, 0, none⟩ c0).setCell ⟨p, 1, none⟩ c1).setCell ⟨p, 2, none⟩ c2) q cs t :=
  ((h.oth p 0 hne c0).oth p 1 hne c1).oth p 2 hne c2
theorem set1 {w : World} {q : Nat} {o : Value} {t : TypeId} (h : Blk w q #[o] t) (c : Value) : Blk (w.setCell ⟨q, 0, none⟩ c) q #[c] t := by
  have := h.set 0 c
  simpa only [List.setIfInBounds_toArray, List.set_cons_zero] using this
set_option maxHeartbeats 2000000 in
theorem replay_any (g : GT) (tape : List Int) (gv tv : Value) (w : World) (hg : GenAt w gv g) (ht : IntsAt w tv tape) :
    Calls Tryd.prog 21 #[gv, tv] w fun e w' => (∃ v, e = .returned (.tuple #[v, errV (playR g tape).2]) ∧ ValAt w' v (playR g tape).1) ∧ Below w.heap.size w w' := by
  obtain ⟨k, a, b, s, ad, cap, hmk, rfl, hk, ha, hb, hl, hm, hs⟩ := hg.form
  obtain ⟨tad, tcap, rfl, htl, htm, hti, _⟩ := ht.form
  unfold maxLen at htm
  have hmf : ∀ (fn : Fn) (first cap : Array Value) (w : World), (Instr.makeFunc fn first cap).run Tryd.prog w = .ok (.func fn first cap) w := fun _ _ _ _ => rfl
  have C1 := Lib.hid (fun W (h : Below w.heap.size w W) => check_any g (.agg #[.int .i64 k, .int .i64 a, .int .i64 b, .slice ad s.length cap]) W (hg.ext h))
  by_cases hc : GT.check g = 0
  · rw [hc, errV_zero] at C1
    have hE := GT.check_ok hc
    have hP := GT.check_parts hc
    have hCo := GT.cost_ok hc
    have hR : playR g tape = (match GT.play (stPlay tape) g 0 with
      | .error e => (zeroV, e)
      | .ok (v, i) => if i < tape.length then (zeroV, 3) else (v, 0)) := by simp only [playR, hc, if_true]
    rw [hR]
    have HER := Lib.hid (GT.play_err (stPlay tape) (fun e => e = 1 ∨ e = 5) (fun m q e h => stPlay_err h) (fun m q c q' _ h => stPlay_bd h) g hE 0)
    have C2 := Lib.hid (fun p1 W (hp1 : w.heap.size + 1 < p1) (hJ : JPlay w w.heap.size p1 (w.heap.size + 1) (.slice tad tape.length tcap) tape 0 p1 W) (hW : Below w.heap.size w W) =>
      made_any (cho_play w w.heap.size p1 (w.heap.size + 1) (.slice tad tape.length tcap) tape (Nat.le_refl _) ht (by omega) (by omega) (by omega)) w (Nat.le_refl _) g 0 0 p1 W _ hE hP (by omega) hJ hW hg)
    generalize GT.play (stPlay tape) g 0 = R at *
    clear hR hc hk ha hb hl hm hs hmk hg ht hE hP
    go_enter_defers Tryd.func21, Tryd.ntmps21
    go_wp2_with fail
    refine (C1.out _ (by repeat (first | with_reducible assumption | with_reducible exact Below.refl _ _ | with_reducible apply Below.drew | (with_reducible refine Below.alloc ?_ (by first | omega | (simp only [World.size_alloc, size_setCell, size_drew, size_drewN]; omega) | (dsimp only; omega) | (simp only [World.size_alloc, size_setCell, size_drew, size_drewN]; dsimp only; omega)) _) | (with_reducible refine Below.setCell ?_ (by first | omega | (simp only [World.size_alloc, size_setCell, size_drew, size_drewN]; omega) | (dsimp only; omega) | (simp only [World.size_alloc, size_setCell, size_drew, size_drewN]; dsimp only; omega)) _) | (with_reducible apply below_drewN)))).mono ?_
    rintro e w1 ⟨rfl, hb1⟩
    have hB1 : Below w.heap.size w w1 := Below.trans (by repeat (first | with_reducible assumption | with_reducible exact Below.refl _ _ | with_reducible apply Below.drew | (with_reducible refine Below.alloc ?_ (by first | omega | (simp only [World.size_alloc, size_setCell, size_drew, size_drewN]; omega) | (dsimp only; omega) | (simp only [World.size_alloc, size_setCell, size_drew, size_drewN]; dsimp only; omega)) _) | (with_reducible refine Below.setCell ?_ (by first | omega | (simp only [World.size_alloc, size_setCell, size_drew, size_drewN]; omega) | (dsimp only; omega) | (simp only [World.size_alloc, size_setCell, size_drew, size_drewN]; dsimp only; omega)) _) | (with_reducible apply below_drewN))) (hb1.mono (by first | omega | (simp only [World.size_alloc, size_setCell, size_drew, size_drewN]; omega) | (dsimp only; omega) | (simp only [World.size_alloc, size_setCell, size_drew, size_drewN]; dsimp only; omega)))
    have x2 := (((Blk.new (w.alloc (.cells #[.int .i64 k, .int .i64 a, .int .i64 b, .slice ad s.length cap] 41)) #[.slice tad tape.length tcap] 43).alloc (.cells #[.bool false, .int .i64 0, .slice none 0 0] 27)).alloc (.cells #[.nilIface] 30)).ext hb1
    have x4 := (((Blk.new ((w.alloc (.cells #[.int .i64 k, .int .i64 a, .int .i64 b, .slice ad s.length cap] 41)).alloc (.cells #[.slice tad tape.length tcap] 43)) #[.bool false, .int .i64 0, .slice none 0 0] 27)).alloc (.cells #[.nilIface] 30)).ext hb1
    have x5 := ((Blk.new (((w.alloc (.cells #[.int .i64 k, .int .i64 a, .int .i64 b, .slice ad s.length cap] 41)).alloc (.cells #[.slice tad tape.length tcap] 43)).alloc (.cells #[.bool false, .int .i64 0, .slice none 0 0] 27)) #[.nilIface] 30)).ext hb1
    simp only [World.size_alloc] at x2 x4 x5
    obtain ⟨hc1, hf1, hz1⟩ := bcell hb1
    simp only [World.size_alloc] at hz1
    clear hb1
    have y1 : w.heap.size < w1.heap.size := by omega
    go_wp2_with fail
    have hJ0 : JPlay w w.heap.size w1.heap.size (w.heap.size + 1) (.slice tad tape.length tcap) tape 0 w1.heap.size (w1.alloc (.cells #[.int .i64 0] 3)) :=
      ⟨fun b hb => (Below.heap_alloc w1 _ b (by omega)).trans (hB1.block b hb), by simp; omega, Blk.new _ _ _, x2.alloc _, by omega, rfl⟩
    refine (C2.out w1.heap.size _ (by omega) hJ0 (by repeat (first | with_reducible assumption | with_reducible exact Below.refl _ _ | with_reducible apply Below.drew | (with_reducible refine Below.alloc ?_ (by first | omega | (simp only [World.size_alloc, size_setCell, size_drew, size_drewN]; omega) | (dsimp only; omega) | (simp only [World.size_alloc, size_setCell, size_drew, size_drewN]; dsimp only; omega)) _) | (with_reducible refine Below.setCell ?_ (by first | omega | (simp only [World.size_alloc, size_setCell, size_drew, size_drewN]; omega) | (dsimp only; omega) | (simp only [World.size_alloc, size_setCell, size_drew, size_drewN]; dsimp only; omega)) _) | (with_reducible apply below_drewN)))).mono ?_
    clear C1 C2
    intro e w3 hmd
    have x4 := x4.alloc (.cells #[.int .i64 0] 3)
    have x5 := x5.alloc (.cells #[.int .i64 0] 3)
    have hB2 : Below w.heap.size w (w1.alloc (.cells #[.int .i64 0] 3)) := by repeat (first | with_reducible assumption | with_reducible exact Below.refl _ _ | with_reducible apply Below.drew | (with_reducible refine Below.alloc ?_ (by first | omega | (simp only [World.size_alloc, size_setCell, size_drew, size_drewN]; omega) | (dsimp only; omega) | (simp only [World.size_alloc, size_setCell, size_drew, size_drewN]; dsimp only; omega)) _) | (with_reducible refine Below.setCell ?_ (by first | omega | (simp only [World.size_alloc, size_setCell, size_drew, size_drewN]; omega) | (dsimp only; omega) | (simp only [World.size_alloc, size_setCell, size_drew, size_drewN]; dsimp only; omega)) _) | (with_reducible apply below_drewN))
    have hz2 : (w1.alloc (.cells #[.int .i64 0] 3)).heap.size = w1.heap.size + 1 := by simp
    have HO : ∀ g', Own w1.heap.size (w.heap.size + 1) w1.heap.size g' (w1.alloc (.cells #[.int .i64 0] 3)) w3 →
        Below w.heap.size w w3 ∧ Blk w3 (w.heap.size + 1 + 1) #[.bool false, .int .i64 0, .slice none 0 0] 27 ∧ Blk w3 (w.heap.size + 1 + 1 + 1) #[.nilIface] 30 := fun g' ho =>
      ⟨hB2.trans (ho.below (by omega) (by omega) (by omega) (by omega)), (ho.blk _ (by omega) (by omega) (by omega) (by omega)).trans x4, (ho.blk _ (by omega) (by omega) (by omega) (by omega)).trans x5⟩
    clear hJ0 hc1 hf1 x2 x4 x5
    generalize hW2 : w1.alloc (.cells #[.int .i64 0] 3) = W2 at *
    cases R with
    | error x =>
      obtain ⟨rfl, g', ho⟩ := hmd
      obtain ⟨hB3, y4, y5⟩ := HO g' ho
      have hx : x ≠ 0 := by have := HER.out x rfl; omega
      refine leaves_cons (f := 44) (args := #[.pointer (some ⟨w.heap.size + 1 + 1, 0, none⟩), .pointer (some ⟨w.heap.size + 1 + 1 + 1, 0, none⟩)]) (by simp) (by simp [go_sem]) ?_
      refine (catch_panicking (w.heap.size + 1 + 1) (w.heap.size + 1 + 1 + 1) x _ _ _ _ [] _ y4 y5 (by omega)).mono ?_
      rintro e u' w'' ⟨rfl, rfl, rfl⟩
      have e4 := (set3 y4 (.bool false) (.int .i64 0) (.slice none 0 0)).oth (w.heap.size + 1 + 1 + 1) 0 (by omega) (.iface 63 (.int .i64 x))
      have e5 := set1 (set3_oth y5 (p := w.heap.size + 1 + 1) (by omega) (.bool false) (.int .i64 0) (.slice none 0 0)) (.iface 63 (.int .i64 x))
      have hBf : Below w.heap.size w ((((w3.setCell ⟨w.heap.size + 1 + 1, 0, none⟩ (.bool false)).setCell ⟨w.heap.size + 1 + 1, 1, none⟩ (.int .i64 0)).setCell ⟨w.heap.size + 1 + 1, 2, none⟩ (.slice none 0 0)).setCell ⟨w.heap.size + 1 + 1 + 1, 0, none⟩ (.iface 63 (.int .i64 x))) := by repeat (first | with_reducible assumption | with_reducible exact Below.refl _ _ | with_reducible apply Below.drew | (with_reducible refine Below.alloc ?_ (by first | omega | (simp only [World.size_alloc, size_setCell, size_drew, size_drewN]; omega) | (dsimp only; omega) | (simp only [World.size_alloc, size_setCell, size_drew, size_drewN]; dsimp only; omega)) _) | (with_reducible refine Below.setCell ?_ (by first | omega | (simp only [World.size_alloc, size_setCell, size_drew, size_drewN]; omega) | (dsimp only; omega) | (simp only [World.size_alloc, size_setCell, size_drew, size_drewN]; dsimp only; omega)) _) | (with_reducible apply below_drewN))
      generalize (((w3.setCell ⟨w.heap.size + 1 + 1, 0, none⟩ (.bool false)).setCell ⟨w.heap.size + 1 + 1, 1, none⟩ (.int .i64 0)).setCell ⟨w.heap.size + 1 + 1, 2, none⟩ (.slice none 0 0)).setCell ⟨w.heap.size + 1 + 1 + 1, 0, none⟩ (.iface 63 (.int .i64 x)) = W4 at *
      have d0 := e4.cell 0
      have d1 := e4.cell 1
      have d2 := e4.cell 2
      have d3 := e5.cell 0
      simp only [List.getElem?_toArray, List.getElem?_cons_succ, List.getElem?_cons_zero] at d0 d1 d2 d3
      simp [Leaves, settle, results, Tryd.results21, go_sem, d0, d1, d2, d3]
      exact ⟨⟨_, ⟨rfl, (errV_ne hx).symm⟩, ValIn.leaf _ _ ⟨by omega, by omega⟩⟩, hBf⟩
    | ok r =>
      obtain ⟨t, i⟩ := r
      obtain ⟨u, rfl, g', hJ3, ho, S, hS, hv⟩ := hmd
      obtain ⟨hB3, y4, y5⟩ := HO g' ho
      obtain ⟨l5, n5, k5, ad5, cap5, rfl⟩ := hv.shape
      have hle := hJ3.le
      have z7 := hJ3.at'
      have z3 := hJ3.tp
      clear ho HO
      have hz3 := hB3.size
      have hzz := y5.lt
      have d0 := y4.cell 0
      have d1 := y4.cell 1
      have d2 := y4.cell 2
      have u0 := y4.unfrozen 0
      have u1 := y4.unfrozen 1
      have u2 := y4.unfrozen 2
      simp only [List.getElem?_toArray, List.getElem?_cons_succ, List.getElem?_cons_zero] at d0 d1 d2
      go_upto_region 7 with (fail)
      have hlw := hB1.size
      have e4 := set3 y4 (.bool l5) (.int .i64 n5) (.slice ad5 k5 cap5)
      have e5 := set3_oth y5 (p := w.heap.size + 1 + 1) (by omega) (.bool l5) (.int .i64 n5) (.slice ad5 k5 cap5)
      have e7 := set3_oth z7 (p := w.heap.size + 1 + 1) (by omega) (.bool l5) (.int .i64 n5) (.slice ad5 k5 cap5)
      have e3 := set3_oth z3 (p := w.heap.size + 1 + 1) (by omega) (.bool l5) (.int .i64 n5) (.slice ad5 k5 cap5)
      have hB4 : Below w.heap.size w (((w3.setCell ⟨w.heap.size + 1 + 1, 0, none⟩ (.bool l5)).setCell ⟨w.heap.size + 1 + 1, 1, none⟩ (.int .i64 n5)).setCell ⟨w.heap.size + 1 + 1, 2, none⟩ (.slice ad5 k5 cap5)) := by repeat (first | with_reducible assumption | with_reducible exact Below.refl _ _ | with_reducible apply Below.drew | (with_reducible refine Below.alloc ?_ (by first | omega | (simp only [World.size_alloc, size_setCell, size_drew, size_drewN]; omega) | (dsimp only; omega) | (simp only [World.size_alloc, size_setCell, size_drew, size_drewN]; dsimp only; omega)) _) | (with_reducible refine Below.setCell ?_ (by first | omega | (simp only [World.size_alloc, size_setCell, size_drew, size_drewN]; omega) | (dsimp only; omega) | (simp only [World.size_alloc, size_setCell, size_drew, size_drewN]; dsimp only; omega)) _) | (with_reducible apply below_drewN))
      have hv4 : ValIn S (((w3.setCell ⟨w.heap.size + 1 + 1, 0, none⟩ (.bool l5)).setCell ⟨w.heap.size + 1 + 1, 1, none⟩ (.int .i64 n5)).setCell ⟨w.heap.size + 1 + 1, 2, none⟩ (.slice ad5 k5 cap5)) (.agg #[.bool l5, .int .i64 n5, .slice ad5 k5 cap5]) t := by
        refine hv.keep (by simp only [size_setCell]; exact Nat.le_refl _) (fun b hb _ => ⟨hb, ?_⟩)
        have := hS b hb
        rw [Below.heap_setCell _ _ _ _ (by dsimp only; omega), Below.heap_setCell _ _ _ _ (by dsimp only; omega), Below.heap_setCell _ _ _ _ (by dsimp only; omega)]
      have hS4 : ∀ b, S b → w.heap.size + 4 ≤ b := fun b hb => by have := hS b hb; omega
      clear d0 d1 d2 u0 u1 u2 y4 y5 z7 z3 hB3 hS hv hJ3
      generalize ((w3.setCell ⟨w.heap.size + 1 + 1, 0, none⟩ (.bool l5)).setCell ⟨w.heap.size + 1 + 1, 1, none⟩ (.int .i64 n5)).setCell ⟨w.heap.size + 1 + 1, 2, none⟩ (.slice ad5 k5 cap5) = W4 at *
      have d0 := e4.cell 0
      have d1 := e4.cell 1
      have d2 := e4.cell 2
      have u0 := e4.unfrozen 0
      have u1 := e4.unfrozen 1
      have u2 := e4.unfrozen 2
      have d3 := e5.cell 0
      have u3 := e5.unfrozen 0
      have d7 := e7.cell 0
      have d8 := e3.cell 0
      simp only [List.getElem?_toArray, List.getElem?_cons_succ, List.getElem?_cons_zero] at d0 d1 d2 d3 d7 d8
      by_cases hi : i < tape.length
      · have HI := Lib.hid hi
        have p1 : (i : Int) < (tape.length : Int) := by omega
        clear hi
        go_wp2_with fail
        have g4 := (set3 e4 (.bool false) (.int .i64 0) (.slice none 0 0)).oth (w.heap.size + 1 + 1 + 1) 0 (by omega) (.iface 63 (.int .i64 3))
        have g5 := set1 (set3_oth e5 (p := w.heap.size + 1 + 1) (by omega) (.bool false) (.int .i64 0) (.slice none 0 0)) (.iface 63 (.int .i64 3))
        have hBf : Below w.heap.size w ((((W4.setCell ⟨w.heap.size + 1 + 1, 0, none⟩ (.bool false)).setCell ⟨w.heap.size + 1 + 1, 1, none⟩ (.int .i64 0)).setCell ⟨w.heap.size + 1 + 1, 2, none⟩ (.slice none 0 0)).setCell ⟨w.heap.size + 1 + 1 + 1, 0, none⟩ (.iface 63 (.int .i64 3))) := by repeat (first | with_reducible assumption | with_reducible exact Below.refl _ _ | with_reducible apply Below.drew | (with_reducible refine Below.alloc ?_ (by first | omega | (simp only [World.size_alloc, size_setCell, size_drew, size_drewN]; omega) | (dsimp only; omega) | (simp only [World.size_alloc, size_setCell, size_drew, size_drewN]; dsimp only; omega)) _) | (with_reducible refine Below.setCell ?_ (by first | omega | (simp only [World.size_alloc, size_setCell, size_drew, size_drewN]; omega) | (dsimp only; omega) | (simp only [World.size_alloc, size_setCell, size_drew, size_drewN]; dsimp only; omega)) _) | (with_reducible apply below_drewN))
        have hvf : ValIn S ((((W4.setCell ⟨w.heap.size + 1 + 1, 0, none⟩ (.bool false)).setCell ⟨w.heap.size + 1 + 1, 1, none⟩ (.int .i64 0)).setCell ⟨w.heap.size + 1 + 1, 2, none⟩ (.slice none 0 0)).setCell ⟨w.heap.size + 1 + 1 + 1, 0, none⟩ (.iface 63 (.int .i64 3))) (.agg #[.bool l5, .int .i64 n5, .slice ad5 k5 cap5]) t := by
          refine hv4.keep (by simp only [size_setCell]; exact Nat.le_refl _) (fun b hb _ => ⟨hb, ?_⟩)
          have := hS4 b hb
          rw [Below.heap_setCell _ _ _ _ (by dsimp only; omega), Below.heap_setCell _ _ _ _ (by dsimp only; omega), Below.heap_setCell _ _ _ _ (by dsimp only; omega), Below.heap_setCell _ _ _ _ (by dsimp only; omega)]
        clear d0 d1 d2 d3 u0 u1 u2 u3 d7 d8 e4 e5 e7 e3 hv4 hB4
        generalize (((W4.setCell ⟨w.heap.size + 1 + 1, 0, none⟩ (.bool false)).setCell ⟨w.heap.size + 1 + 1, 1, none⟩ (.int .i64 0)).setCell ⟨w.heap.size + 1 + 1, 2, none⟩ (.slice none 0 0)).setCell ⟨w.heap.size + 1 + 1 + 1, 0, none⟩ (.iface 63 (.int .i64 3)) = W5 at *
        have d0 := g4.cell 0
        have d1 := g4.cell 1
        have d2 := g4.cell 2
        have d3 := g5.cell 0
        simp only [List.getElem?_toArray, List.getElem?_cons_succ, List.getElem?_cons_zero] at d0 d1 d2 d3
        refine leaves_cons (f := 44) (args := #[.pointer (some ⟨w.heap.size + 1 + 1, 0, none⟩), .pointer (some ⟨w.heap.size + 1 + 1 + 1, 0, none⟩)]) (by simp) (by simp [go_sem]) ?_
        refine (catch_idle ⟨w.heap.size + 1 + 1, 0, none⟩ ⟨w.heap.size + 1 + 1 + 1, 0, none⟩ _).mono ?_
        rintro e u' w'' ⟨rfl, rfl, rfl⟩
        simp [Leaves, settle, results, Tryd.results21, go_sem, d0, d1, d2, d3]
        exact ⟨⟨_, ⟨rfl, rfl⟩, ValIn.leaf _ _ ⟨by omega, by omega⟩⟩, hBf⟩
      · have HI := Lib.hid hi
        have p1 : ¬ (i : Int) < (tape.length : Int) := by omega
        clear hi
        go_wp2_with fail
        have g4 := (set3 e4 (.bool l5) (.int .i64 n5) (.slice ad5 k5 cap5)).oth (w.heap.size + 1 + 1 + 1) 0 (by omega) (.nilIface)
        have g5 := set1 (set3_oth e5 (p := w.heap.size + 1 + 1) (by omega) (.bool l5) (.int .i64 n5) (.slice ad5 k5 cap5)) (.nilIface)
        have hBf : Below w.heap.size w ((((W4.setCell ⟨w.heap.size + 1 + 1, 0, none⟩ (.bool l5)).setCell ⟨w.heap.size + 1 + 1, 1, none⟩ (.int .i64 n5)).setCell ⟨w.heap.size + 1 + 1, 2, none⟩ (.slice ad5 k5 cap5)).setCell ⟨w.heap.size + 1 + 1 + 1, 0, none⟩ (.nilIface)) := by repeat (first | with_reducible assumption | with_reducible exact Below.refl _ _ | with_reducible apply Below.drew | (with_reducible refine Below.alloc ?_ (by first | omega | (simp only [World.size_alloc, size_setCell, size_drew, size_drewN]; omega) | (dsimp only; omega) | (simp only [World.size_alloc, size_setCell, size_drew, size_drewN]; dsimp only; omega)) _) | (with_reducible refine Below.setCell ?_ (by first | omega | (simp only [World.size_alloc, size_setCell, size_drew, size_drewN]; omega) | (dsimp only; omega) | (simp only [World.size_alloc, size_setCell, size_drew, size_drewN]; dsimp only; omega)) _) | (with_reducible apply below_drewN))
        have hvf : ValIn S ((((W4.setCell ⟨w.heap.size + 1 + 1, 0, none⟩ (.bool l5)).setCell ⟨w.heap.size + 1 + 1, 1, none⟩ (.int .i64 n5)).setCell ⟨w.heap.size + 1 + 1, 2, none⟩ (.slice ad5 k5 cap5)).setCell ⟨w.heap.size + 1 + 1 + 1, 0, none⟩ (.nilIface)) (.agg #[.bool l5, .int .i64 n5, .slice ad5 k5 cap5]) t := by
          refine hv4.keep (by simp only [size_setCell]; exact Nat.le_refl _) (fun b hb _ => ⟨hb, ?_⟩)
          have := hS4 b hb
          rw [Below.heap_setCell _ _ _ _ (by dsimp only; omega), Below.heap_setCell _ _ _ _ (by dsimp only; omega), Below.heap_setCell _ _ _ _ (by dsimp only; omega), Below.heap_setCell _ _ _ _ (by dsimp only; omega)]
        clear d0 d1 d2 d3 u0 u1 u2 u3 d7 d8 e4 e5 e7 e3 hv4 hB4
        generalize (((W4.setCell ⟨w.heap.size + 1 + 1, 0, none⟩ (.bool l5)).setCell ⟨w.heap.size + 1 + 1, 1, none⟩ (.int .i64 n5)).setCell ⟨w.heap.size + 1 + 1, 2, none⟩ (.slice ad5 k5 cap5)).setCell ⟨w.heap.size + 1 + 1 + 1, 0, none⟩ (.nilIface) = W5 at *
        have d0 := g4.cell 0
        have d1 := g4.cell 1
        have d2 := g4.cell 2
        have d3 := g5.cell 0
        simp only [List.getElem?_toArray, List.getElem?_cons_succ, List.getElem?_cons_zero] at d0 d1 d2 d3
        refine leaves_cons (f := 44) (args := #[.pointer (some ⟨w.heap.size + 1 + 1, 0, none⟩), .pointer (some ⟨w.heap.size + 1 + 1 + 1, 0, none⟩)]) (by simp) (by simp [go_sem]) ?_
        refine (catch_idle ⟨w.heap.size + 1 + 1, 0, none⟩ ⟨w.heap.size + 1 + 1 + 1, 0, none⟩ _).mono ?_
        rintro e u' w'' ⟨rfl, rfl, rfl⟩
        simp [Leaves, settle, results, Tryd.results21, go_sem, d0, d1, d2, d3]
        exact ⟨⟨_, ⟨rfl, rfl⟩, hvf.at⟩, hBf⟩
  · have hR : playR g tape = (zeroV, GT.check g) := by simp [playR, hc]
    rw [hR]
    have he := Lib.hid (errV_ne hc)
    dsimp only
    rw [he.out] at C1 ⊢
    clear hR hg hmk hk ha hb hl hm hs ht
    generalize GT.check g = ce at *
    go_enter_defers Tryd.func21, Tryd.ntmps21
    go_wp2_with fail
    refine (C1.out _ (by repeat (first | with_reducible assumption | with_reducible exact Below.refl _ _ | with_reducible apply Below.drew | (with_reducible refine Below.alloc ?_ (by first | omega | (simp only [World.size_alloc, size_setCell, size_drew, size_drewN]; omega) | (dsimp only; omega) | (simp only [World.size_alloc, size_setCell, size_drew, size_drewN]; dsimp only; omega)) _) | (with_reducible refine Below.setCell ?_ (by first | omega | (simp only [World.size_alloc, size_setCell, size_drew, size_drewN]; omega) | (dsimp only; omega) | (simp only [World.size_alloc, size_setCell, size_drew, size_drewN]; dsimp only; omega)) _) | (with_reducible apply below_drewN)))).mono ?_
    rintro e w1 ⟨rfl, hb1⟩
    have hB1 : Below w.heap.size w w1 := Below.trans (by repeat (first | with_reducible assumption | with_reducible exact Below.refl _ _ | with_reducible apply Below.drew | (with_reducible refine Below.alloc ?_ (by first | omega | (simp only [World.size_alloc, size_setCell, size_drew, size_drewN]; omega) | (dsimp only; omega) | (simp only [World.size_alloc, size_setCell, size_drew, size_drewN]; dsimp only; omega)) _) | (with_reducible refine Below.setCell ?_ (by first | omega | (simp only [World.size_alloc, size_setCell, size_drew, size_drewN]; omega) | (dsimp only; omega) | (simp only [World.size_alloc, size_setCell, size_drew, size_drewN]; dsimp only; omega)) _) | (with_reducible apply below_drewN))) (hb1.mono (by first | omega | (simp only [World.size_alloc, size_setCell, size_drew, size_drewN]; omega) | (dsimp only; omega) | (simp only [World.size_alloc, size_setCell, size_drew, size_drewN]; dsimp only; omega)))
    have x4 := (((Blk.new ((w.alloc (.cells #[.int .i64 k, .int .i64 a, .int .i64 b, .slice ad s.length cap] 41)).alloc (.cells #[.slice tad tape.length tcap] 43)) #[.bool false, .int .i64 0, .slice none 0 0] 27)).alloc (.cells #[.nilIface] 30)).ext hb1
    have x5 := ((Blk.new (((w.alloc (.cells #[.int .i64 k, .int .i64 a, .int .i64 b, .slice ad s.length cap] 41)).alloc (.cells #[.slice tad tape.length tcap] 43)).alloc (.cells #[.bool false, .int .i64 0, .slice none 0 0] 27)) #[.nilIface] 30)).ext hb1
    simp only [World.size_alloc] at x4 x5
    have d0 := x4.cell 0
    have d1 := x4.cell 1
    have d2 := x4.cell 2
    have u0 := x4.unfrozen 0
    have u1 := x4.unfrozen 1
    have u2 := x4.unfrozen 2
    have d3 := x5.cell 0
    have u3 := x5.unfrozen 0
    obtain ⟨hc1, hf1, hz1⟩ := bcell hb1
    simp only [World.size_alloc] at hz1
    simp only [List.getElem?_toArray, List.getElem?_cons_succ, List.getElem?_cons_zero] at d0 d1 d2 d3
    clear hb1
    go_wp2_with fail
    have y4 := (((x4.set 0 (.bool false)).set 1 (.int .i64 0)).set 2 (.slice none 0 0)).oth (w.heap.size + 1 + 1 + 1) 0 (by omega) (.iface 63 (.int .i64 ce))
    have y5 := (((x5.oth (w.heap.size + 1 + 1) 0 (by omega) (.bool false)).oth (w.heap.size + 1 + 1) 1 (by omega) (.int .i64 0)).oth (w.heap.size + 1 + 1) 2 (by omega) (.slice none 0 0)).set 0 (.iface 63 (.int .i64 ce))
    simp only [List.setIfInBounds_toArray, List.set_cons_zero, List.set_cons_succ] at y4 y5
    have hBf : Below w.heap.size w ((((w1.setCell ⟨w.heap.size + 1 + 1, 0, none⟩ (.bool false)).setCell ⟨w.heap.size + 1 + 1, 1, none⟩ (.int .i64 0)).setCell ⟨w.heap.size + 1 + 1, 2, none⟩ (.slice none 0 0)).setCell ⟨w.heap.size + 1 + 1 + 1, 0, none⟩ (.iface 63 (.int .i64 ce))) := by repeat (first | with_reducible assumption | with_reducible exact Below.refl _ _ | with_reducible apply Below.drew | (with_reducible refine Below.alloc ?_ (by first | omega | (simp only [World.size_alloc, size_setCell, size_drew, size_drewN]; omega) | (dsimp only; omega) | (simp only [World.size_alloc, size_setCell, size_drew, size_drewN]; dsimp only; omega)) _) | (with_reducible refine Below.setCell ?_ (by first | omega | (simp only [World.size_alloc, size_setCell, size_drew, size_drewN]; omega) | (dsimp only; omega) | (simp only [World.size_alloc, size_setCell, size_drew, size_drewN]; dsimp only; omega)) _) | (with_reducible apply below_drewN))
    clear d0 d1 d2 d3 u0 u1 u2 u3 x4 x5 hB1
    generalize (((w1.setCell ⟨w.heap.size + 1 + 1, 0, none⟩ (.bool false)).setCell ⟨w.heap.size + 1 + 1, 1, none⟩ (.int .i64 0)).setCell ⟨w.heap.size + 1 + 1, 2, none⟩ (.slice none 0 0)).setCell ⟨w.heap.size + 1 + 1 + 1, 0, none⟩ (.iface 63 (.int .i64 ce)) = W4 at *
    have d0 := y4.cell 0
    have d1 := y4.cell 1
    have d2 := y4.cell 2
    have d3 := y5.cell 0
    simp only [List.getElem?_toArray, List.getElem?_cons_succ, List.getElem?_cons_zero] at d0 d1 d2 d3
    simp [bodyPostD, Leaves, settle, results, Tryd.results21, go_sem, d0, d1, d2, d3]
    exact ⟨ValIn.leaf _ _ ⟨by omega, by omega⟩, hBf⟩
end Go.Proofs.YtcecpggkeaohnaaDoor
